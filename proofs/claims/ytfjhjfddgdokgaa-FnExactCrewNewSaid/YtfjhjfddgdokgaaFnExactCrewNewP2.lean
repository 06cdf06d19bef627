/- The statement FnExactCrewNew holds for all arguments; part 2 of the texts that show it. No further condition. -/
import Derived.Test.YtfjhjfddgdokgaaFnExactCrewNewP1
namespace Go.Proofs.Ytfjhjfddgdokgaa
set_option linter.all false
open Go Go.RowKit
set_option maxRecDepth 100000
variable (w0 : World) (H : AHeap) (K : Value → AHeap → Prop)
def quadThere (q : Qd) (n : Int) : Bool := (q.op != 6 && q.op != 7) || decide (q.n < n)
theorem boxThere_ok (q : Qd) (n : Int) (h : K (.bool (quadThere q n)) H) : ACalls Try.prog w0 94 [q.val, .int .i64 n] H K := by
  refine acalls_of_sx mix Try.func94 of94 (by simp [ir94]) ?_; rw [ir94]; (try delta qT qI qC qO qM qG)
  repeat' (first | simp -implicitDefEqProofs only [zG1,zG2,zG3,zG4,zG5,zG6,zG7,eq_self,resV,rval,X.val,binv,fillL,setR,↓reduceIte,Nat.reduceEqDiff,Nat.reduceAdd,Nat.reduceMul,Nat.reduceLeDiff,Nat.reduceLT,Nat.reduceSub,reduceCtorEq,zGr, q_val] | ((with_reducible refine rows_intro (fun _ hb => ?_)); try simp only [set_none, ne_eq] at hb) | ((with_reducible refine new_intro (fun _ hb => ?_)); try simp only [set_none, ne_eq] at hb) | (with_reducible refine draw_same ?_) | ((with_reducible refine gd_split ?_ (fun _ => ?_) (fun _ => ?_)); exact rfl) | ((with_reducible refine td_split ?_ (fun _ => ?_) (fun _ => ?_)); exact rfl) | (with_reducible refine c_split (fun _ => ?_) (fun _ => ?_)))
  all_goals exact ⟨H, (AHeap.le.refl H).fresh (by assumption) _, by simp only [quadThere, *, Bool.false_and, Bool.true_and, Bool.and_self, Bool.false_or, Bool.true_or] at h ⊢; exact h⟩
theorem l23Quad_ok (q : Qd) (n : Int) (h : K (.bool (quadThere q n)) H) : ACalls Try.prog w0 143 [q.val, .int .i64 n] H K := by
  refine acalls_of_sx mix Try.func143 of143 (by simp [ir143]) ?_; rw [ir143]; (try delta qT qI qC qO qM qG)
  repeat' (first | simp -implicitDefEqProofs only [zG1,zG2,zG3,zG4,zG5,zG6,zG7,eq_self,resV,rval,X.val,binv,fillL,setR,↓reduceIte,Nat.reduceEqDiff,Nat.reduceAdd,Nat.reduceMul,Nat.reduceLeDiff,Nat.reduceLT,Nat.reduceSub,reduceCtorEq,zGr, q_val] | ((with_reducible refine rows_intro (fun _ hb => ?_)); try simp only [set_none, ne_eq] at hb) | ((with_reducible refine new_intro (fun _ hb => ?_)); try simp only [set_none, ne_eq] at hb) | (with_reducible refine draw_same ?_) | ((with_reducible refine gd_split ?_ (fun _ => ?_) (fun _ => ?_)); exact rfl) | ((with_reducible refine td_split ?_ (fun _ => ?_) (fun _ => ?_)); exact rfl) | (with_reducible refine c_split (fun _ => ?_) (fun _ => ?_)))
  all_goals exact ⟨H, (AHeap.le.refl H).fresh (by assumption) _, by simp only [quadThere, *, Bool.false_and, Bool.true_and, Bool.and_self, Bool.false_or, Bool.true_or] at h ⊢; exact h⟩
theorem l4WordsL_ok (A : Option Addr) (c : Nat) (xs : List Int) (hx : Fl H A (ints xs)) (hn : xs.length ≤ 1048576) (h : K (.bool (words xs)) H) :
    ACalls Try.prog w0 88 [.slice A xs.length c, .int .i64 xs.length] H K := by
  have d1 : ((xs.length : Int) != (xs.length : Int)) = false := by simp
  refine acalls_of_sx mix Try.func88 of88 (by simp [ir88]) ?_; rw [ir88]; (try delta qT qI qC qO qM qG)
  repeat' (first | simp -implicitDefEqProofs only [zG1,zG2,zG3,zG4,zG5,zG6,zG7,eq_self,resV,rval,X.val,binv,fillL,setR,↓reduceIte,Nat.reduceEqDiff,Nat.reduceAdd,Nat.reduceMul,Nat.reduceLeDiff,Nat.reduceLT,Nat.reduceSub,reduceCtorEq,zGp, d1] | ((with_reducible refine rows_intro (fun _ hb => ?_)); try simp only [set_none, ne_eq] at hb) | ((with_reducible refine new_intro (fun _ hb => ?_)); try simp only [set_none, ne_eq] at hb) | (with_reducible refine draw_same ?_) | ((with_reducible refine gd_split ?_ (fun _ => ?_) (fun _ => ?_)); exact rfl) | ((with_reducible refine td_split ?_ (fun _ => ?_) (fun _ => ?_)); exact rfl) | (with_reducible refine c_split (fun _ => ?_) (fun _ => ?_)))
  refine for_rule xs.length (fun k fr C => C = H ∧ (∀ i (hi : i < xs.length), i < k → wordValid xs[i] = true) ∧ fr 0 = .slice A xs.length c ∧ fr 5 = .int .i64 k)
    ⟨rfl, fun i _ hi => absurd hi (Nat.not_lt_zero _), (by first | rfl | (simp only [put_at, ↓reduceIte, Nat.reduceEqDiff]; first | done | rfl | assumption) | simp [put_at, *]), (by first | rfl | (simp only [put_at, ↓reduceIte, Nat.reduceEqDiff]; first | done | rfl | assumption) | simp [put_at, *])⟩ ?_ ?_
  · rintro k fr C hk ⟨rfl, hw, f0, f5⟩ N hN
    have g0 := lt_dec hk
    have g1 := rng hk
    have g2 := up1 hk (by omega)
    have q1 := hx.int hk
    have q2 := hx.ints_is hk
    cases hv : wordValid xs[k] with
    | true =>
      repeat' (first | simp -implicitDefEqProofs only [zG1,zG2,zG3,zG4,zG5,zG6,zG7,eq_self,resV,rval,X.val,binv,fillL,setR,↓reduceIte,Nat.reduceEqDiff,Nat.reduceAdd,Nat.reduceMul,Nat.reduceLeDiff,Nat.reduceLT,Nat.reduceSub,reduceCtorEq,zGp, f0, f5, g0, g1, g2, q1, q2, hv, Nat.mul_one] | ((with_reducible refine rows_intro (fun _ hb => ?_)); try simp only [set_none, ne_eq] at hb) | ((with_reducible refine new_intro (fun _ hb => ?_)); try simp only [set_none, ne_eq] at hb) | (with_reducible refine draw_same ?_) | ((with_reducible refine gd_split ?_ (fun _ => ?_) (fun _ => ?_)); exact rfl) | ((with_reducible refine td_split ?_ (fun _ => ?_) (fun _ => ?_)); exact rfl) | (with_reducible refine c_split (fun _ => ?_) (fun _ => ?_)) | (with_reducible refine wordValidS_ok _ _ _ _ ?_))
      refine hN _ _ _ (.refl _) ⟨rfl, fun i hi hik => ?_, (by first | rfl | (simp only [put_at, ↓reduceIte, Nat.reduceEqDiff]; first | done | rfl | assumption) | simp [put_at, *]), (by first | rfl | (simp only [put_at, ↓reduceIte, Nat.reduceEqDiff]; first | done | rfl | assumption) | simp [put_at, *])⟩
      rcases Nat.lt_succ_iff_lt_or_eq.1 hik with hik | rfl
      · exact hw i hi hik
      · exact hv
    | false =>
      have e : words xs = false := by
        rw [words, List.all_eq_false]
        exact ⟨xs[k], List.getElem_mem hk, by rw [hv]; simp⟩
      rw [e] at h
      repeat' (first | simp -implicitDefEqProofs only [zG1,zG2,zG3,zG4,zG5,zG6,zG7,eq_self,resV,rval,X.val,binv,fillL,setR,↓reduceIte,Nat.reduceEqDiff,Nat.reduceAdd,Nat.reduceMul,Nat.reduceLeDiff,Nat.reduceLT,Nat.reduceSub,reduceCtorEq,zGp, f0, f5, g0, g1, g2, q1, q2, hv, Nat.mul_one] | ((with_reducible refine rows_intro (fun _ hb => ?_)); try simp only [set_none, ne_eq] at hb) | ((with_reducible refine new_intro (fun _ hb => ?_)); try simp only [set_none, ne_eq] at hb) | (with_reducible refine draw_same ?_) | ((with_reducible refine gd_split ?_ (fun _ => ?_) (fun _ => ?_)); exact rfl) | ((with_reducible refine td_split ?_ (fun _ => ?_) (fun _ => ?_)); exact rfl) | (with_reducible refine c_split (fun _ => ?_) (fun _ => ?_)) | (with_reducible refine wordValidS_ok _ _ _ _ ?_))
      exact ret_same h
  · rintro fr C ⟨rfl, hw, f0, f5⟩ N
    have g0 : decide ((xs.length : Int) < (xs.length : Int)) = false := by simp
    have e : words xs = true := by
      rw [words, List.all_eq_true]
      intro x hx
      obtain ⟨i, hi, rfl⟩ := List.getElem_of_mem hx
      exact hw i hi hi
    rw [e] at h
    repeat' (first | simp -implicitDefEqProofs only [zG1,zG2,zG3,zG4,zG5,zG6,zG7,eq_self,resV,rval,X.val,binv,fillL,setR,↓reduceIte,Nat.reduceEqDiff,Nat.reduceAdd,Nat.reduceMul,Nat.reduceLeDiff,Nat.reduceLT,Nat.reduceSub,reduceCtorEq,zGp, f0, f5, g0] | ((with_reducible refine rows_intro (fun _ hb => ?_)); try simp only [set_none, ne_eq] at hb) | ((with_reducible refine new_intro (fun _ hb => ?_)); try simp only [set_none, ne_eq] at hb) | (with_reducible refine draw_same ?_) | ((with_reducible refine gd_split ?_ (fun _ => ?_) (fun _ => ?_)); exact rfl) | ((with_reducible refine td_split ?_ (fun _ => ?_) (fun _ => ?_)); exact rfl) | (with_reducible refine c_split (fun _ => ?_) (fun _ => ?_)))
    exact ret_same h
def codeThere (qs : List Qd) (n : Int) : Bool := qs.all fun q => quadThere q n
theorem l24Code_ok (A : Option Addr) (c : Nat) (qs : List Qd) (n : Int) (hx : Fl H A (qcells qs)) (hn : qs.length ≤ 1048576) (h : K (.bool (codeThere qs n)) H) :
    ACalls Try.prog w0 87 [.slice A qs.length c, .int .i64 n] H K := by
  refine acalls_of_sx mix Try.func87 of87 (by simp [ir87]) ?_; rw [ir87]; (try delta qT qI qC qO qM qG)
  repeat' (first | simp -implicitDefEqProofs only [zG1,zG2,zG3,zG4,zG5,zG6,zG7,eq_self,resV,rval,X.val,binv,fillL,setR,↓reduceIte,Nat.reduceEqDiff,Nat.reduceAdd,Nat.reduceMul,Nat.reduceLeDiff,Nat.reduceLT,Nat.reduceSub,reduceCtorEq,zGp] | ((with_reducible refine rows_intro (fun _ hb => ?_)); try simp only [set_none, ne_eq] at hb) | ((with_reducible refine new_intro (fun _ hb => ?_)); try simp only [set_none, ne_eq] at hb) | (with_reducible refine draw_same ?_) | ((with_reducible refine gd_split ?_ (fun _ => ?_) (fun _ => ?_)); exact rfl) | ((with_reducible refine td_split ?_ (fun _ => ?_) (fun _ => ?_)); exact rfl) | (with_reducible refine c_split (fun _ => ?_) (fun _ => ?_)))
  refine for_rule qs.length (fun k fr C => C = H ∧ (∀ i (hi : i < qs.length), i < k → quadThere qs[i] n = true) ∧ fr 0 = .slice A qs.length c ∧ fr 1 = .int .i64 n ∧ fr 5 = .int .i64 k)
    ⟨rfl, fun i _ hi => absurd hi (Nat.not_lt_zero _), (by first | rfl | (simp only [put_at, ↓reduceIte, Nat.reduceEqDiff]; first | done | rfl | assumption) | simp [put_at, *]), (by first | rfl | (simp only [put_at, ↓reduceIte, Nat.reduceEqDiff]; first | done | rfl | assumption) | simp [put_at, *]), (by first | rfl | (simp only [put_at, ↓reduceIte, Nat.reduceEqDiff]; first | done | rfl | assumption) | simp [put_at, *])⟩ ?_ ?_
  · rintro k fr C hk ⟨rfl, hw, f0, f1, f5⟩ N hN
    have g0 := lt_dec hk
    have g1 := rng hk
    have g2 := up1 hk (by omega)
    have p5 := hx.rdq hk
    have pA := hx.qd_is hk
    cases hv : quadThere qs[k] n with
    | true =>
      repeat' (first | simp -implicitDefEqProofs only [zG1,zG2,zG3,zG4,zG5,zG6,zG7,eq_self,resV,rval,X.val,binv,fillL,setR,↓reduceIte,Nat.reduceEqDiff,Nat.reduceAdd,Nat.reduceMul,Nat.reduceLeDiff,Nat.reduceLT,Nat.reduceSub,reduceCtorEq,zGp, f0, f1, f5, g0, g1, g2, p5, pA, hv] | ((with_reducible refine rows_intro (fun _ hb => ?_)); try simp only [set_none, ne_eq] at hb) | ((with_reducible refine new_intro (fun _ hb => ?_)); try simp only [set_none, ne_eq] at hb) | (with_reducible refine draw_same ?_) | ((with_reducible refine gd_split ?_ (fun _ => ?_) (fun _ => ?_)); exact rfl) | ((with_reducible refine td_split ?_ (fun _ => ?_) (fun _ => ?_)); exact rfl) | (with_reducible refine c_split (fun _ => ?_) (fun _ => ?_)) | (with_reducible refine l23Quad_ok _ _ _ qs[k] n ?_))
      refine hN _ _ _ (.refl _) ⟨rfl, fun i hi hik => ?_, (by first | rfl | (simp only [put_at, ↓reduceIte, Nat.reduceEqDiff]; first | done | rfl | assumption) | simp [put_at, *]), (by first | rfl | (simp only [put_at, ↓reduceIte, Nat.reduceEqDiff]; first | done | rfl | assumption) | simp [put_at, *]), (by first | rfl | (simp only [put_at, ↓reduceIte, Nat.reduceEqDiff]; first | done | rfl | assumption) | simp [put_at, *])⟩
      rcases Nat.lt_succ_iff_lt_or_eq.1 hik with hik | rfl
      · exact hw i hi hik
      · exact hv
    | false =>
      have e : codeThere qs n = false := by
        rw [codeThere, List.all_eq_false]
        exact ⟨qs[k], List.getElem_mem hk, by rw [hv]; simp⟩
      rw [e] at h
      repeat' (first | simp -implicitDefEqProofs only [zG1,zG2,zG3,zG4,zG5,zG6,zG7,eq_self,resV,rval,X.val,binv,fillL,setR,↓reduceIte,Nat.reduceEqDiff,Nat.reduceAdd,Nat.reduceMul,Nat.reduceLeDiff,Nat.reduceLT,Nat.reduceSub,reduceCtorEq,zGp, f0, f1, f5, g0, g1, g2, p5, pA, hv] | ((with_reducible refine rows_intro (fun _ hb => ?_)); try simp only [set_none, ne_eq] at hb) | ((with_reducible refine new_intro (fun _ hb => ?_)); try simp only [set_none, ne_eq] at hb) | (with_reducible refine draw_same ?_) | ((with_reducible refine gd_split ?_ (fun _ => ?_) (fun _ => ?_)); exact rfl) | ((with_reducible refine td_split ?_ (fun _ => ?_) (fun _ => ?_)); exact rfl) | (with_reducible refine c_split (fun _ => ?_) (fun _ => ?_)) | (with_reducible refine l23Quad_ok _ _ _ qs[k] n ?_))
      exact ret_same h
  · rintro fr C ⟨rfl, hw, f0, f1, f5⟩ N
    have g0 : decide ((qs.length : Int) < (qs.length : Int)) = false := by simp
    have e : codeThere qs n = true := by
      rw [codeThere, List.all_eq_true]
      intro q hq
      obtain ⟨i, hi, rfl⟩ := List.getElem_of_mem hq
      exact hw i hi hi
    rw [e] at h
    repeat' (first | simp -implicitDefEqProofs only [zG1,zG2,zG3,zG4,zG5,zG6,zG7,eq_self,resV,rval,X.val,binv,fillL,setR,↓reduceIte,Nat.reduceEqDiff,Nat.reduceAdd,Nat.reduceMul,Nat.reduceLeDiff,Nat.reduceLT,Nat.reduceSub,reduceCtorEq,zGp, f0, f1, f5, g0] | ((with_reducible refine rows_intro (fun _ hb => ?_)); try simp only [set_none, ne_eq] at hb) | ((with_reducible refine new_intro (fun _ hb => ?_)); try simp only [set_none, ne_eq] at hb) | (with_reducible refine draw_same ?_) | ((with_reducible refine gd_split ?_ (fun _ => ?_) (fun _ => ?_)); exact rfl) | ((with_reducible refine td_split ?_ (fun _ => ?_) (fun _ => ?_)); exact rfl) | (with_reducible refine c_split (fun _ => ?_) (fun _ => ?_)))
    exact ret_same h
end Go.Proofs.Ytfjhjfddgdokgaa
namespace Go.Proofs.Ytfjhjfddgdokgaa
set_option linter.all false
open Go Go.RowKit
set_option maxRecDepth 100000
variable (w0 : World) (H : AHeap) (K : Value → AHeap → Prop)
def boxOk (p : Int) (xs : List Int) : Bool := decide (1 ≤ p) && decide (p ≤ 4) && decide ((xs.length : Int) ≤ p) && words xs
theorem boxValid_ok (p : Int) (A : Option Addr) (c : Nat) (xs : List Int) (hx : Fl H A (ints xs)) (hn : xs.length ≤ 1048576) (h : K (.bool (boxOk p xs)) H) : ACalls Try.prog w0 148 [.agg #[.int .i64 p, .slice A xs.length c]] H K := by
  refine acalls_of_sx mix Try.func148 of148 (by simp [ir148]) ?_; rw [ir148]; (try delta qT qI qC qO qM qG)
  repeat' (first | simp -implicitDefEqProofs only [zG1,zG2,zG3,zG4,zG5,zG6,zG7,eq_self,resV,rval,X.val,binv,fillL,setR,↓reduceIte,Nat.reduceEqDiff,Nat.reduceAdd,Nat.reduceMul,Nat.reduceLeDiff,Nat.reduceLT,Nat.reduceSub,reduceCtorEq,zGp] | ((with_reducible refine rows_intro (fun _ hb => ?_)); try simp only [set_none, ne_eq] at hb) | ((with_reducible refine new_intro (fun _ hb => ?_)); try simp only [set_none, ne_eq] at hb) | (with_reducible refine draw_same ?_) | ((with_reducible refine gd_split ?_ (fun _ => ?_) (fun _ => ?_)); exact rfl) | ((with_reducible refine td_split ?_ (fun _ => ?_) (fun _ => ?_)); exact rfl) | (with_reducible refine c_split (fun _ => ?_) (fun _ => ?_)) | (with_reducible refine areWords_ok _ _ _ A c xs (hx.le ((AHeap.le.refl H).fresh ‹H _ = none› _)) hn ?_))
  all_goals refine ⟨H, (AHeap.le.refl H).fresh (by assumption) _, ?_⟩
  all_goals (try simp only [beq_iff_eq, beq_eq_false_iff_ne, bne_iff_ne, bne_eq_false_iff_eq, decide_eq_true_eq, decide_eq_false_iff_not, ne_eq, Bool.not_eq_true, Bool.not_eq_false, Bool.not_eq_eq_eq_not, Bool.not_true, Bool.not_false, Int.not_lt, Int.not_le, ge_iff_le, gt_iff_lt] at *)
  all_goals refine kb h ?_
  all_goals simp only [boxOk]
  all_goals first | (simp [*]; done) | (simp [*]; omega) | (simp; omega) | (simp; intros; omega)
theorem boxValidS_ok (p : Int) (A : Option Addr) (c : Nat) (xs : List Int) (hx : Fl H A (ints xs)) (hn : xs.length ≤ 1048576) (h : K (.bool (boxOk p xs)) H) : ACalls Try.prog w0 141 [.agg #[.int .i64 p, .slice A xs.length c]] H K := by
  refine acalls_of_sx mix Try.func141 of141 (by simp [ir141]) ?_; rw [ir141]; (try delta qT qI qC qO qM qG)
  repeat' (first | simp -implicitDefEqProofs only [zG1,zG2,zG3,zG4,zG5,zG6,zG7,eq_self,resV,rval,X.val,binv,fillL,setR,↓reduceIte,Nat.reduceEqDiff,Nat.reduceAdd,Nat.reduceMul,Nat.reduceLeDiff,Nat.reduceLT,Nat.reduceSub,reduceCtorEq,zGp] | ((with_reducible refine rows_intro (fun _ hb => ?_)); try simp only [set_none, ne_eq] at hb) | ((with_reducible refine new_intro (fun _ hb => ?_)); try simp only [set_none, ne_eq] at hb) | (with_reducible refine draw_same ?_) | ((with_reducible refine gd_split ?_ (fun _ => ?_) (fun _ => ?_)); exact rfl) | ((with_reducible refine td_split ?_ (fun _ => ?_) (fun _ => ?_)); exact rfl) | (with_reducible refine c_split (fun _ => ?_) (fun _ => ?_)) | (with_reducible refine l6In_ok _ _ _ _ _ _ ?_) | (with_reducible refine l4WordsL_ok _ _ _ A c xs (hx.le ((AHeap.le.refl H).fresh ‹H _ = none› _)) hn ?_))
  all_goals refine ⟨H, (AHeap.le.refl H).fresh (by assumption) _, ?_⟩
  all_goals (try simp only [beq_iff_eq, beq_eq_false_iff_ne, bne_iff_ne, bne_eq_false_iff_eq, decide_eq_true_eq, decide_eq_false_iff_not, ne_eq, Bool.not_eq_true, Bool.not_eq_false, Bool.not_eq_eq_eq_not, Bool.not_true, Bool.not_false, Int.not_lt, Int.not_le, ge_iff_le, gt_iff_lt] at *)
  all_goals refine kb h ?_
  all_goals simp only [boxOk]
  all_goals first | (simp [*]; done) | (simp [*]; omega) | (simp; omega) | (simp; intros; omega)
end Go.Proofs.Ytfjhjfddgdokgaa
namespace Go.Proofs.Ytfjhjfddgdokgaa
set_option linter.all false
open Go Go.RowKit
set_option maxRecDepth 100000
variable (w0 : World) (H : AHeap) (K : Value → AHeap → Prop)
def boxesOk (ts : List (List Int × Int)) : Bool := (ts.all fun t => boxOk t.2 t.1) && decide ((ts.length : Int) ≤ 3)
theorem l15Boxes_ok (A : Option Addr) (c : Nat) (ts : List (List Int × Int)) (hx : FP H A 1 0 ts) (hn : ts.length ≤ 1048576) (hL : ∀ x ∈ ts, x.1.length ≤ 1048576) (h : K (.bool (boxesOk ts)) H) :
    ACalls Try.prog w0 85 [.slice A ts.length c] H K := by
  refine acalls_of_sx mix Try.func85 of85 (by simp [ir85]) ?_; rw [ir85]; (try delta qT qI qC qO qM qG)
  repeat' (first | simp -implicitDefEqProofs only [zG1,zG2,zG3,zG4,zG5,zG6,zG7,eq_self,resV,rval,X.val,binv,fillL,setR,↓reduceIte,Nat.reduceEqDiff,Nat.reduceAdd,Nat.reduceMul,Nat.reduceLeDiff,Nat.reduceLT,Nat.reduceSub,reduceCtorEq,zGp] | ((with_reducible refine rows_intro (fun _ hb => ?_)); try simp only [set_none, ne_eq] at hb) | ((with_reducible refine new_intro (fun _ hb => ?_)); try simp only [set_none, ne_eq] at hb) | (with_reducible refine draw_same ?_) | ((with_reducible refine gd_split ?_ (fun _ => ?_) (fun _ => ?_)); exact rfl) | ((with_reducible refine td_split ?_ (fun _ => ?_) (fun _ => ?_)); exact rfl) | (with_reducible refine c_split (fun _ => ?_) (fun _ => ?_)))
  refine for_rule ts.length (fun k fr C => C = H ∧ (∀ i (hi : i < ts.length), i < k → boxOk ts[i].2 ts[i].1 = true) ∧ fr 0 = .slice A ts.length c ∧ fr 3 = .int .i64 k)
    ⟨rfl, fun i _ hi => absurd hi (Nat.not_lt_zero _), (by first | rfl | (simp only [put_at, ↓reduceIte, Nat.reduceEqDiff]; first | done | rfl | assumption) | simp [put_at, *]), (by first | rfl | (simp only [put_at, ↓reduceIte, Nat.reduceEqDiff]; first | done | rfl | assumption) | simp [put_at, *])⟩ ?_ ?_
  · rintro k fr C hk ⟨rfl, hw, f0, f3⟩ N hN
    have g0 := lt_dec hk
    have g1 := rng hk
    have g2 := up1 hk (by omega)
    obtain ⟨q1, A', c', q2, fl⟩ := hx.rd1 hk
    have hb := hL _ (List.getElem_mem hk)
    cases hv : boxOk ts[k].2 ts[k].1 with
    | true =>
      repeat' (first | simp -implicitDefEqProofs only [zG1,zG2,zG3,zG4,zG5,zG6,zG7,eq_self,resV,rval,X.val,binv,fillL,setR,↓reduceIte,Nat.reduceEqDiff,Nat.reduceAdd,Nat.reduceMul,Nat.reduceLeDiff,Nat.reduceLT,Nat.reduceSub,reduceCtorEq,zGp, f0, f3, g0, g1, g2, q1, q2, hv] | ((with_reducible refine rows_intro (fun _ hb => ?_)); try simp only [set_none, ne_eq] at hb) | ((with_reducible refine new_intro (fun _ hb => ?_)); try simp only [set_none, ne_eq] at hb) | (with_reducible refine draw_same ?_) | ((with_reducible refine gd_split ?_ (fun _ => ?_) (fun _ => ?_)); exact rfl) | ((with_reducible refine td_split ?_ (fun _ => ?_) (fun _ => ?_)); exact rfl) | (with_reducible refine c_split (fun _ => ?_) (fun _ => ?_)) | (with_reducible refine boxValidS_ok _ _ _ _ A' c' ts[k].1 fl hb ?_))
      refine hN _ _ _ (.refl _) ⟨rfl, fun i hi hik => ?_, (by first | rfl | (simp only [put_at, ↓reduceIte, Nat.reduceEqDiff]; first | done | rfl | assumption) | simp [put_at, *]), (by first | rfl | (simp only [put_at, ↓reduceIte, Nat.reduceEqDiff]; first | done | rfl | assumption) | simp [put_at, *])⟩
      rcases Nat.lt_succ_iff_lt_or_eq.1 hik with hik | rfl
      · exact hw i hi hik
      · exact hv
    | false =>
      have e : boxesOk ts = false := by
        have : (ts.all fun t => boxOk t.2 t.1) = false := by
          rw [List.all_eq_false]
          exact ⟨ts[k], List.getElem_mem hk, by rw [hv]; simp⟩
        rw [boxesOk, this]; rfl
      rw [e] at h
      repeat' (first | simp -implicitDefEqProofs only [zG1,zG2,zG3,zG4,zG5,zG6,zG7,eq_self,resV,rval,X.val,binv,fillL,setR,↓reduceIte,Nat.reduceEqDiff,Nat.reduceAdd,Nat.reduceMul,Nat.reduceLeDiff,Nat.reduceLT,Nat.reduceSub,reduceCtorEq,zGp, f0, f3, g0, g1, g2, q1, q2, hv] | ((with_reducible refine rows_intro (fun _ hb => ?_)); try simp only [set_none, ne_eq] at hb) | ((with_reducible refine new_intro (fun _ hb => ?_)); try simp only [set_none, ne_eq] at hb) | (with_reducible refine draw_same ?_) | ((with_reducible refine gd_split ?_ (fun _ => ?_) (fun _ => ?_)); exact rfl) | ((with_reducible refine td_split ?_ (fun _ => ?_) (fun _ => ?_)); exact rfl) | (with_reducible refine c_split (fun _ => ?_) (fun _ => ?_)) | (with_reducible refine boxValidS_ok _ _ _ _ A' c' ts[k].1 fl hb ?_))
      exact ret_same h
  · rintro fr C ⟨rfl, hw, f0, f3⟩ N
    have g0 : decide ((ts.length : Int) < (ts.length : Int)) = false := by simp
    have e : boxesOk ts = decide ((ts.length : Int) ≤ 3) := by
      have : (ts.all fun t => boxOk t.2 t.1) = true := by
        rw [List.all_eq_true]
        intro q hq
        obtain ⟨i, hi, rfl⟩ := List.getElem_of_mem hq
        exact hw i hi hi
      rw [boxesOk, this, Bool.true_and]
    rw [e] at h
    repeat' (first | simp -implicitDefEqProofs only [zG1,zG2,zG3,zG4,zG5,zG6,zG7,eq_self,resV,rval,X.val,binv,fillL,setR,↓reduceIte,Nat.reduceEqDiff,Nat.reduceAdd,Nat.reduceMul,Nat.reduceLeDiff,Nat.reduceLT,Nat.reduceSub,reduceCtorEq,zGp, f0, f3, g0] | ((with_reducible refine rows_intro (fun _ hb => ?_)); try simp only [set_none, ne_eq] at hb) | ((with_reducible refine new_intro (fun _ hb => ?_)); try simp only [set_none, ne_eq] at hb) | (with_reducible refine draw_same ?_) | ((with_reducible refine gd_split ?_ (fun _ => ?_) (fun _ => ?_)); exact rfl) | ((with_reducible refine td_split ?_ (fun _ => ?_) (fun _ => ?_)); exact rfl) | (with_reducible refine c_split (fun _ => ?_) (fun _ => ?_)))
    exact ret_same h
end Go.Proofs.Ytfjhjfddgdokgaa
namespace Go.Proofs.Ytfjhjfddgdokgaa
set_option linter.all false
open Go Go.RowKit
set_option maxRecDepth 100000
variable (w0 : World) (H : AHeap) (K : Value → AHeap → Prop)
theorem boxesValid_ok (A : Option Addr) (c : Nat) (ts : List (List Int × Int)) (hx : FP H A 1 0 ts) (hn : ts.length ≤ 1048576) (hL : ∀ x ∈ ts, x.1.length ≤ 1048576) (h : K (.bool (boxesOk ts)) H) :
    ACalls Try.prog w0 92 [.slice A ts.length c] H K := by
  refine acalls_of_sx mix Try.func92 of92 (by simp [ir92]) ?_; rw [ir92]; (try delta qT qI qC qO qM qG)
  repeat' (first | simp -implicitDefEqProofs only [zG1,zG2,zG3,zG4,zG5,zG6,zG7,eq_self,resV,rval,X.val,binv,fillL,setR,↓reduceIte,Nat.reduceEqDiff,Nat.reduceAdd,Nat.reduceMul,Nat.reduceLeDiff,Nat.reduceLT,Nat.reduceSub,reduceCtorEq,zGp] | ((with_reducible refine rows_intro (fun _ hb => ?_)); try simp only [set_none, ne_eq] at hb) | ((with_reducible refine new_intro (fun _ hb => ?_)); try simp only [set_none, ne_eq] at hb) | (with_reducible refine draw_same ?_) | ((with_reducible refine gd_split ?_ (fun _ => ?_) (fun _ => ?_)); exact rfl) | ((with_reducible refine td_split ?_ (fun _ => ?_) (fun _ => ?_)); exact rfl) | (with_reducible refine c_split (fun _ => ?_) (fun _ => ?_)))
  refine for_rule ts.length (fun k fr C => C = H ∧ (∀ i (hi : i < ts.length), i < k → boxOk ts[i].2 ts[i].1 = true) ∧ fr 0 = .slice A ts.length c ∧ fr 5 = .slice A ts.length c ∧ fr 6 = .int .i64 ts.length ∧ fr 7 = .int .i64 k)
    ⟨rfl, fun i _ hi => absurd hi (Nat.not_lt_zero _), (by first | rfl | (simp only [put_at, ↓reduceIte, Nat.reduceEqDiff]; first | done | rfl | assumption) | simp [put_at, *]), (by first | rfl | (simp only [put_at, ↓reduceIte, Nat.reduceEqDiff]; first | done | rfl | assumption) | simp [put_at, *]), (by first | rfl | (simp only [put_at, ↓reduceIte, Nat.reduceEqDiff]; first | done | rfl | assumption) | simp [put_at, *]), (by first | rfl | (simp only [put_at, ↓reduceIte, Nat.reduceEqDiff]; first | done | rfl | assumption) | simp [put_at, *])⟩ ?_ ?_
  · rintro k fr C hk ⟨rfl, hw, f0, f5, f6, f7⟩ N hN
    have g0 := lt_dec hk
    have g1 := rng hk
    have g2 := up1 hk (by omega)
    obtain ⟨q1, A', c', q2, fl⟩ := hx.rd1 hk
    have hbl := hL _ (List.getElem_mem hk)
    cases hv : boxOk ts[k].2 ts[k].1 with
    | true =>
      repeat' (first | simp -implicitDefEqProofs only [zG1,zG2,zG3,zG4,zG5,zG6,zG7,eq_self,resV,rval,X.val,binv,fillL,setR,↓reduceIte,Nat.reduceEqDiff,Nat.reduceAdd,Nat.reduceMul,Nat.reduceLeDiff,Nat.reduceLT,Nat.reduceSub,reduceCtorEq,zGp, f0, f5, f6, f7, g0, g1, g2, q1, q2, hv] | ((with_reducible refine rows_intro (fun _ hb => ?_)); try simp only [set_none, ne_eq] at hb) | ((with_reducible refine new_intro (fun _ hb => ?_)); try simp only [set_none, ne_eq] at hb) | (with_reducible refine draw_same ?_) | ((with_reducible refine gd_split ?_ (fun _ => ?_) (fun _ => ?_)); exact rfl) | ((with_reducible refine td_split ?_ (fun _ => ?_) (fun _ => ?_)); exact rfl) | (with_reducible refine c_split (fun _ => ?_) (fun _ => ?_)) | (with_reducible refine boxValid_ok _ _ _ _ A' c' ts[k].1 (fl.le ((AHeap.le.refl _).fresh (by assumption) _)) hbl ?_))
      refine hN _ _ C ((AHeap.le.refl _).fresh (by assumption) _) ⟨rfl, fun i hi hik => ?_, (by first | rfl | (simp only [put_at, ↓reduceIte, Nat.reduceEqDiff]; first | done | rfl | assumption) | simp [put_at, *]), (by first | rfl | (simp only [put_at, ↓reduceIte, Nat.reduceEqDiff]; first | done | rfl | assumption) | simp [put_at, *]), (by first | rfl | (simp only [put_at, ↓reduceIte, Nat.reduceEqDiff]; first | done | rfl | assumption) | simp [put_at, *]), (by first | rfl | (simp only [put_at, ↓reduceIte, Nat.reduceEqDiff]; first | done | rfl | assumption) | simp [put_at, *])⟩
      rcases Nat.lt_succ_iff_lt_or_eq.1 hik with hik | rfl
      · exact hw i hi hik
      · exact hv
    | false =>
      have e : boxesOk ts = false := by
        have : (ts.all fun t => boxOk t.2 t.1) = false := by
          rw [List.all_eq_false]
          exact ⟨ts[k], List.getElem_mem hk, by rw [hv]; simp⟩
        rw [boxesOk, this]; rfl
      rw [e] at h
      repeat' (first | simp -implicitDefEqProofs only [zG1,zG2,zG3,zG4,zG5,zG6,zG7,eq_self,resV,rval,X.val,binv,fillL,setR,↓reduceIte,Nat.reduceEqDiff,Nat.reduceAdd,Nat.reduceMul,Nat.reduceLeDiff,Nat.reduceLT,Nat.reduceSub,reduceCtorEq,zGp, f0, f5, f6, f7, g0, g1, g2, q1, q2, hv] | ((with_reducible refine rows_intro (fun _ hb => ?_)); try simp only [set_none, ne_eq] at hb) | ((with_reducible refine new_intro (fun _ hb => ?_)); try simp only [set_none, ne_eq] at hb) | (with_reducible refine draw_same ?_) | ((with_reducible refine gd_split ?_ (fun _ => ?_) (fun _ => ?_)); exact rfl) | ((with_reducible refine td_split ?_ (fun _ => ?_) (fun _ => ?_)); exact rfl) | (with_reducible refine c_split (fun _ => ?_) (fun _ => ?_)) | (with_reducible refine boxValid_ok _ _ _ _ A' c' ts[k].1 (fl.le ((AHeap.le.refl _).fresh (by assumption) _)) hbl ?_))
      exact ⟨C, (AHeap.le.refl _).fresh (by assumption) _, h⟩
  · rintro fr C ⟨rfl, hw, f0, f5, f6, f7⟩ N
    have g0 : decide ((ts.length : Int) < (ts.length : Int)) = false := by simp
    have e : boxesOk ts = decide ((ts.length : Int) ≤ 3) := by
      have : (ts.all fun t => boxOk t.2 t.1) = true := by
        rw [List.all_eq_true]
        intro q hq
        obtain ⟨i, hi, rfl⟩ := List.getElem_of_mem hq
        exact hw i hi hi
      rw [boxesOk, this, Bool.true_and]
    rw [e] at h
    repeat' (first | simp -implicitDefEqProofs only [zG1,zG2,zG3,zG4,zG5,zG6,zG7,eq_self,resV,rval,X.val,binv,fillL,setR,↓reduceIte,Nat.reduceEqDiff,Nat.reduceAdd,Nat.reduceMul,Nat.reduceLeDiff,Nat.reduceLT,Nat.reduceSub,reduceCtorEq,zGp, f0, f5, f6, f7, g0] | ((with_reducible refine rows_intro (fun _ hb => ?_)); try simp only [set_none, ne_eq] at hb) | ((with_reducible refine new_intro (fun _ hb => ?_)); try simp only [set_none, ne_eq] at hb) | (with_reducible refine draw_same ?_) | ((with_reducible refine gd_split ?_ (fun _ => ?_) (fun _ => ?_)); exact rfl) | ((with_reducible refine td_split ?_ (fun _ => ?_) (fun _ => ?_)); exact rfl) | (with_reducible refine c_split (fun _ => ?_) (fun _ => ?_)))
    exact ret_same h
end Go.Proofs.Ytfjhjfddgdokgaa
namespace Go.Proofs.Ytfjhjfddgdokgaa
set_option linter.all false
open Go Go.RowKit
set_option maxRecDepth 100000
variable (w0 : World) (H : AHeap) (K : Value → AHeap → Prop)
def turnsOk (n turn last : Int) (log : List Int) : Bool := decide (1 ≤ n) && decide (n ≤ 3) && decide (0 ≤ turn) && decide (turn < n) && decide (0 ≤ last) && decide (last ≤ n) && words log
theorem turnsValid_ok (n turn last : Int) (A : Option Addr) (c : Nat) (log : List Int) (hx : Fl H A (ints log)) (hn : log.length ≤ 1048576) (h : K (.bool (turnsOk n turn last log)) H) :
    ACalls Try.prog w0 91 [.int .i64 n, .int .i64 turn, .int .i64 last, .slice A log.length c] H K := by
  refine acalls_of_sx mix Try.func91 of91 (by simp [ir91]) ?_; rw [ir91]; (try delta qT qI qC qO qM qG)
  repeat' (first | simp -implicitDefEqProofs only [zG1,zG2,zG3,zG4,zG5,zG6,zG7,eq_self,resV,rval,X.val,binv,fillL,setR,↓reduceIte,Nat.reduceEqDiff,Nat.reduceAdd,Nat.reduceMul,Nat.reduceLeDiff,Nat.reduceLT,Nat.reduceSub,reduceCtorEq,zGp] | ((with_reducible refine rows_intro (fun _ hb => ?_)); try simp only [set_none, ne_eq] at hb) | ((with_reducible refine new_intro (fun _ hb => ?_)); try simp only [set_none, ne_eq] at hb) | (with_reducible refine draw_same ?_) | ((with_reducible refine gd_split ?_ (fun _ => ?_) (fun _ => ?_)); exact rfl) | ((with_reducible refine td_split ?_ (fun _ => ?_) (fun _ => ?_)); exact rfl) | (with_reducible refine c_split (fun _ => ?_) (fun _ => ?_)) | (with_reducible refine areWords_ok _ _ _ A c log hx hn ?_))
  all_goals (try simp only [beq_iff_eq, beq_eq_false_iff_ne, bne_iff_ne, bne_eq_false_iff_eq, decide_eq_true_eq, decide_eq_false_iff_not, ne_eq, Bool.not_eq_true, Bool.not_eq_false, Bool.not_eq_eq_eq_not, Bool.not_true, Bool.not_false, Int.not_lt, Int.not_le, ge_iff_le, gt_iff_lt] at *)
  all_goals refine ret_same (kb h ?_)
  all_goals simp only [turnsOk]
  all_goals first | (simp [*]; done) | (simp [*]; omega) | (simp; omega) | (simp; intros; omega)
end Go.Proofs.Ytfjhjfddgdokgaa
namespace Go.Proofs.Ytfjhjfddgdokgaa
set_option linter.all false
open Go Go.RowKit
set_option maxRecDepth 100000
variable (w0 : World)
abbrev crc (c : Cr) (A0 : Option Addr) (c0 : Nat) (A1 : Option Addr) (c1 : Nat) (A2 : Option Addr) (c2 : Nat) (A5 : Option Addr) (c5 : Nat) : List Value :=
  [.slice A0 c.codes.length c0, .slice A1 c.threads.length c1, .slice A2 c.boxes.length c2, .int .i64 c.turn, .int .i64 c.last, .slice A5 c.log.length c5]
abbrev crv (c : Cr) (A0 : Option Addr) (c0 : Nat) (A1 : Option Addr) (c1 : Nat) (A2 : Option Addr) (c2 : Nat) (A5 : Option Addr) (c5 : Nat) : Value :=
  .agg #[.slice A0 c.codes.length c0, .slice A1 c.threads.length c1, .slice A2 c.boxes.length c2, .int .i64 c.turn, .int .i64 c.last, .slice A5 c.log.length c5]
structure CrR (H : AHeap) (c : Cr) (A0 A1 A2 A5 : Option Addr) : Prop where
  f0 : FR H A0 c.codes
  f1 : FP H A1 0 1 c.threads
  f2 : FP H A2 1 0 c.boxes
  f5 : Fl H A5 (ints c.log)
theorem CrR.le {H H' : AHeap} {c : Cr} {A0 A1 A2 A5 : Option Addr} (h : CrR H c A0 A1 A2 A5) (l : AHeap.le H H') : CrR H' c A0 A1 A2 A5 := ⟨h.f0.le l, h.f1.le l, h.f2.le l, h.f5.le l⟩
/-- All its rows are at most so long. -/
structure CrB (m : Nat) (c : Cr) : Prop where
  n0 : c.codes.length ≤ m
  m0 : ∀ x ∈ c.codes, x.length ≤ m
  n1 : c.threads.length ≤ m
  m1 : ∀ x ∈ c.threads, x.1.length ≤ m
  n2 : c.boxes.length ≤ m
  m2 : ∀ x ∈ c.boxes, x.1.length ≤ m
  n5 : c.log.length ≤ m
def Cr.size (c : Cr) : Nat := (c.codes.length + sumL c.codes) + (c.threads.length + sumP c.threads) + (c.boxes.length + sumP c.boxes) + c.log.length
theorem sumL_at {L : List (List Qd)} {x : List Qd} (h : x ∈ L) : x.length ≤ sumL L := by
  obtain ⟨i, hi, rfl⟩ := List.getElem_of_mem h
  have := sumL_step hi
  have := sumL_le L (i + 1)
  omega
theorem sumP_at {L : List (List Int × Int)} {x : List Int × Int} (h : x ∈ L) : x.1.length ≤ sumP L := by
  obtain ⟨i, hi, rfl⟩ := List.getElem_of_mem h
  have := sumP_step hi
  have := sumP_le L (i + 1)
  omega
theorem CrB.of_size {m : Nat} {c : Cr} (h : c.size ≤ m) : CrB m c := by
  simp only [Cr.size] at h
  exact ⟨by omega, fun x hx => by have := sumL_at hx; omega, by omega, fun x hx => by have := sumP_at hx; omega, by omega, fun x hx => by have := sumP_at hx; omega, by omega⟩
section
variable (H : AHeap) (K : Value → AHeap → Prop) (c : Cr) (A0 : Option Addr) (c0 : Nat) (A1 : Option Addr) (c1 : Nat) (A2 : Option Addr) (c2 : Nat) (A5 : Option Addr) (c5 : Nat)
theorem kn6 {C : AHeap} {x : Nat} {t : TypeId} {o : Bool} {n : Nat} {v0 v1 v2 v3 v4 v5 : Value} (k : Kn C x ⟨[v0, v1, v2, v3, v4, v5], o, t, n⟩) :
    C.cell (some ⟨x, 0, none⟩) = some v0 ∧ C.cell (some ⟨x, 1, none⟩) = some v1 ∧ C.cell (some ⟨x, 2, none⟩) = some v2 ∧ C.cell (some ⟨x, 3, none⟩) = some v3 ∧ C.cell (some ⟨x, 4, none⟩) = some v4 ∧ C.cell (some ⟨x, 5, none⟩) = some v5 :=
  ⟨k.cell (j := 0) rfl, k.cell (j := 1) rfl, k.cell (j := 2) rfl, k.cell (j := 3) rfl, k.cell (j := 4) rfl, k.cell (j := 5) rfl⟩
theorem eqCrew_ok (B0 : Option Addr) (e0 : Nat) (B1 : Option Addr) (e1 : Nat) (B2 : Option Addr) (e2 : Nat) (B5 : Option Addr) (e5 : Nat) (hc : CrR H c A0 A1 A2 A5) (hd : CrR H c B0 B1 B2 B5) (hb : CrB 1048576 c) (h : K (.bool true) H) :
    ACalls Try.prog w0 36 [crv c A0 c0 A1 c1 A2 c2 A5 c5, crv c B0 e0 B1 e1 B2 e2 B5 e5] H K := by
  refine acalls_of_sx mix Try.func36 of36 (by simp [ir36]) ?_; rw [ir36]; (try delta qT qI qC qO qM qG)
  repeat' (first | simp -implicitDefEqProofs only [zG1,zG2,zG3,zG4,zG5,zG6,zG7,eq_self,resV,rval,X.val,binv,fillL,setR,↓reduceIte,Nat.reduceEqDiff,Nat.reduceAdd,Nat.reduceMul,Nat.reduceLeDiff,Nat.reduceLT,Nat.reduceSub,reduceCtorEq,zGq])
  refine new_intro (fun x2 hx2 => ?_)
  repeat' (first | simp -implicitDefEqProofs only [zG1,zG2,zG3,zG4,zG5,zG6,zG7,eq_self,resV,rval,X.val,binv,fillL,setR,↓reduceIte,Nat.reduceEqDiff,Nat.reduceAdd,Nat.reduceMul,Nat.reduceLeDiff,Nat.reduceLT,Nat.reduceSub,reduceCtorEq,zGq])
  refine new_intro (fun x3 hx3 => ?_)
  simp only [set_none, ne_eq] at hx3
  have l1 := ((AHeap.le.refl H).fresh hx2 ⟨crc c A0 c0 A1 c1 A2 c2 A5 c5, true, 62, 6⟩).fresh (set_none.2 hx3) ⟨crc c B0 e0 B1 e1 B2 e2 B5 e5, true, 62, 6⟩
  have k2 : Kn ((H.set x2 ⟨crc c A0 c0 A1 c1 A2 c2 A5 c5, true, 62, 6⟩).set x3 ⟨crc c B0 e0 B1 e1 B2 e2 B5 e5, true, 62, 6⟩) x2 ⟨crc c A0 c0 A1 c1 A2 c2 A5 c5, true, 62, 6⟩ := (Kn.same _ _ _).set (fun e => hx3.1 e.symm) _
  have k3 := Kn.same (H.set x2 ⟨crc c A0 c0 A1 c1 A2 c2 A5 c5, true, 62, 6⟩) x3 ⟨crc c B0 e0 B1 e1 B2 e2 B5 e5, true, 62, 6⟩
  generalize (H.set x2 _).set x3 _ = C at l1 k2 k3 ⊢
  have q2 := kn6 k2
  have q3 := kn6 k3
  have hc' := hc.le l1
  have hd' := hd.le l1
  have n5 := hb.n5
  repeat' (first | simp -implicitDefEqProofs only [zG1,zG2,zG3,zG4,zG5,zG6,zG7,eq_self,resV,rval,X.val,binv,fillL,setR,↓reduceIte,Nat.reduceEqDiff,Nat.reduceAdd,Nat.reduceMul,Nat.reduceLeDiff,Nat.reduceLT,Nat.reduceSub,reduceCtorEq,zGq, q2, q3, bne_self_eq_false, decide_true] | (with_reducible refine eqQuadSS_ok _ _ _ A0 B0 c0 e0 _ hc'.f0 hd'.f0 hb.n0 hb.m0 ?_) | (with_reducible refine eqThreadS_ok _ _ _ A1 B1 c1 e1 _ hc'.f1 hd'.f1 hb.n1 hb.m1 ?_) | (with_reducible refine eqBoxS_ok _ _ _ A2 B2 c2 e2 _ hc'.f2 hd'.f2 hb.n2 hb.m2 ?_) | (with_reducible refine eqIntS_ok _ _ _ A5 B5 c5 e5 _ _ hc'.f5 hd'.f5 (by omega) ?_))
  exact ⟨H, l1, h⟩
end
end Go.Proofs.Ytfjhjfddgdokgaa
namespace Go.Proofs.Ytfjhjfddgdokgaa
set_option linter.all false
open Go Go.RowKit Go.Joins Go.ChangeShapes Go.WideShapes Go.ChangeAt Go.Deep
set_option linter.unusedVariables false
set_option maxRecDepth 100000
section
variable {H : Type} {enc : TypeId × Value → H} {P : Program} {w : World} {base : Nat} {spare : Nat → Bool} {held : Bool}
theorem open_qrow {t e u : TypeId} {f0 f1 f2 f3 f4 : Field} (ht : P.underlying t = some (.slice e)) (he : P.underlying e = some (.struct #[f0, f1, f2, f3, f4])) (hone : oneCellFields P #[f0, f1, f2, f3, f4] = true) (hC : P.cellsOf e = 5)
    (hu : P.underlying u = some (.int .i64)) (hf : f0.type = u ∧ f1.type = u ∧ f2.type = u ∧ f3.type = u ∧ f4.type = u) (fuel : Nat) (cs : List Value) (x : DataW H × List MemPlace) (h : DataW.trod enc P w base spare held fuel t cs = some x) : ∃ qs : List Qd, QuadsR w qs cs := by
  have main : ∀ (a : Option Addr) (len cap : Nat), cs = [.slice a len cap] → ∃ qs : List Qd, QuadsR w qs cs := fun a len cap e => by
    obtain ⟨qs, rfl, hm, hfl⟩ := open_quads (a := a) (len := len) (cap := cap) (d := x.1) (p := x.2) ht he hone hC hu hf ⟨fuel, by subst e; simpa [Value.cells] using h⟩
    exact ⟨qs, a, cap, e, hm, hfl⟩
  rcases DataW.trod_slice ht h with ⟨hc, _⟩ | ⟨a, len, cap, elems, rest, m, hfm, hc, _⟩
  · exact main _ _ _ hc
  · exact main _ _ _ hc
abbrev RowsR (w : World) (L : List (List Qd)) (cs : List Value) : Prop := ∃ A c, cs = [.slice A L.length c] ∧ L.length ≤ maxLen ∧ (∀ x ∈ L, x.length ≤ maxLen) ∧ FR (heapOf w) A L
theorem open_rows {s t : TypeId} (hs : P.underlying s = some (.slice t)) (hC : P.cellsOf t = 1) (op : ∀ (fuel : Nat) (cs : List Value) (x : DataW H × List MemPlace), DataW.trod enc P w base spare held fuel t cs = some x → ∃ qs : List Qd, QuadsR w qs cs)
    (fuel : Nat) (cs : List Value) (x : DataW H × List MemPlace) (h : DataW.trod enc P w base spare held fuel s cs = some x) : ∃ L : List (List Qd), RowsR w L cs := by
  obtain ⟨L, A, c, e, hm, hr⟩ := open_row hs hC (QuadsR w) op h
  refine ⟨L, A, c, e, hm, fun x hx => ?_, fun i hi => ?_⟩
  · obtain ⟨i, hi, rfl⟩ := List.getElem_of_mem hx
    obtain ⟨_, vs, ⟨_, _, _, hm', _⟩, _, _⟩ := hr i hi
    exact hm'
  · obtain ⟨hA, vs, ⟨A', c', rfl, hm', hfl⟩, hl, hc⟩ := hr i hi
    have := hc 0 (by simp)
    rw [Nat.mul_one, Nat.add_zero] at this
    exact ⟨hA, A', c', this, hfl⟩
end
end Go.Proofs.Ytfjhjfddgdokgaa
namespace Go.Proofs.Ytfjhjfddgdokgaa
set_option linter.all false
open Go Go.RowKit
/-- v is a row of the call's own, over H. -/
def Row (H C : AHeap) (t : TypeId) (sz : Nat) (v : Value) (n : Nat) (xs : List Value) : Prop := ∃ bs, AHeap.le H C ∧ New H bs ∧ Rw C t sz v n xs bs
section
variable {P : Program} {w0 : World} {K : Value → AHeap → Prop} {H H' B C C' C2 : AHeap} {t : TypeId} {sz n m b : Nat} {v : Value} {xs news : List Value}
theorem Row.le (h : Row H C t sz v n xs) (l : AHeap.le C C') : Row H C' t sz v n xs := by
  obtain ⟨bs, l0, nb, w⟩ := h
  exact ⟨bs, l0.trans l, nb, w.trans l⟩
theorem Row.fl (h : Row H C t sz v n xs) : ∃ A c, v = .slice A n c ∧ Fl C A xs := by
  obtain ⟨bs, l0, nb, w⟩ := h
  exact w.fl
theorem Row.fl' {A : Option Addr} {n' c : Nat} (h : Row H C t sz (.slice A n' c) n xs) : Fl C A xs ∧ n' = n := by
  obtain ⟨bs, l0, nb, w⟩ := h
  exact w.fl'
theorem Row.len (h : Row H C t sz v n xs) : xs.length = n * sz := by
  obtain ⟨bs, l0, nb, w⟩ := h
  exact w.len
theorem Row.nil_ (H : AHeap) (t : TypeId) (sz : Nat) : Row H H t sz (.slice none 0 0) 0 [] := ⟨[], .refl _, New.nil _, Rw.nil_ _ _ _⟩
/-- A row made by a literal. -/
theorem Row.lit (hb : H b = none) {c : Nat} (hc : c = n * sz) (hl : xs.length = n * sz) (hm : n ≤ maxLen) : Row H (H.set b ⟨xs, true, t, c⟩) t sz (.slice (some ⟨b, 0, none⟩) n n) n xs := by
  subst hc
  exact ⟨[b], (AHeap.le.refl H).fresh hb _, New.one hb, Rw.mk (Kn.same _ _ _) hl (Nat.le_refl _) hm⟩
/-- Append what can be read. -/
theorem Row.app {z : List Value} {bytes : Nat} {xa : Option Addr} {xc : Nat} (h : Row H C t z.length v n xs) (hf : Fl C xa news) (hl : news.length = m * z.length) (h1 : ∀ u ∈ news, u.oneCell' = true) (hm : n + m ≤ maxLen) (hB : (n + m) * bytes ≤ 140737488355328)
    (hK : ∀ v' C', Row H C' t z.length v' (n + m) (xs ++ news) → K v' C') : appK P w0 z t bytes v (.slice xa m xc) K C := by
  obtain ⟨bs, l, nb, w⟩ := h
  refine app_rw w hf hl h1 hm hB fun v' C' bs' hc hn hr => hK v' C' ⟨bs', hc.keep l nb, fun x hx => ?_, hr⟩
  rcases hn x hx with h | h
  · exact nb x h
  · exact l.none h
/-- Append one literal element. -/
theorem Row.app1 {z : List Value} {bytes : Nat} {xc : Nat} (h : Row H C t z.length v n xs) (hb : C b = none) {o : Bool} {t' : TypeId} {c : Nat} (hl : news.length = m * z.length) (h1 : ∀ u ∈ news, u.oneCell' = true) (hm : n + m ≤ maxLen) (hB : (n + m) * bytes ≤ 140737488355328)
    (hK : ∀ v' C', Row H C' t z.length v' (n + m) (xs ++ news) → K v' C') : appK P w0 z t bytes v (.slice (some ⟨b, 0, none⟩) m xc) K (C.set b ⟨news, o, t', c⟩) :=
  (h.le ((AHeap.le.refl C).fresh hb _)).app (Fl.blk _ _ _ _ fun _ _ h => h) hl h1 hm hB hK
end
end Go.Proofs.Ytfjhjfddgdokgaa
namespace Go.Proofs.Ytfjhjfddgdokgaa
set_option linter.all false
open Go Go.RowKit
/-- What C' knows of the blocks that C does not know. -/
def AHeap.off (C' C : AHeap) : AHeap := fun x => if (C x).isSome then none else C' x
theorem off_at {C' C : AHeap} {x : Nat} (h : C x = none) : C'.off C x = C' x := by simp [AHeap.off, h]
section
variable {H C C' C1 C2 D : AHeap} {b x : Nat} {k : Blk} {bs bs' : List Nat}
theorem kn_off {k : Blk} (hx : H x = none) (hk : Kn C x k) : Kn (C.off H) x k := by
  obtain ⟨k1, h1, r⟩ := hk
  exact ⟨k1, by rw [off_at hx]; exact h1, r⟩
end
end Go.Proofs.Ytfjhjfddgdokgaa
namespace Go.Proofs.Ytfjhjfddgdokgaa
set_option linter.all false
open Go Go.RowKit
set_option maxRecDepth 100000
variable (w0 : World) (C : AHeap) (K : Value → AHeap → Prop)
theorem markIntS_rw {t : TypeId} {v : Value} {n : Nat} {xs : List Value} {bs : List Nat} (hr : Rw C t 1 v n xs bs) (hn : n ≤ 4611686018427387904) (k : Int) (h0 : 0 ≤ k) (h1 : k < 4611686018427387904)
    (h : ∀ C', Chg C C' bs → Rw C' t 1 v n (ints (marks k n)) bs → K (.int .i64 (k + n)) C') : ACalls Try.prog w0 43 [v, .int .i64 k] C K := by
  obtain ⟨A, B, lB, oB, hA⟩ := hr.own_
  refine ACalls.mono (markIntS_ok _ _ _ _ _ _ _ _ k oB hn h0 h1 (fun C' o => ?_)) lB
  obtain ⟨h1, h2⟩ := Rw.put oB hA hr rfl o
  exact h C' h1 h2
end Go.Proofs.Ytfjhjfddgdokgaa
namespace Go.Proofs.Ytfjhjfddgdokgaa
set_option linter.all false
open Go Go.RowKit
set_option maxRecDepth 100000
/-- The row of numbers stands at place o of a pair, the number at place u. -/
def OP (C : AHeap) (t' : TypeId) (o u : Nat) (v : Value) (ts : List (List Int × Int)) (bs : List Nat) : Prop :=
  ∃ (vs : List Value) (ob : List Nat) (bss : List (List Nat)), Rw C t' 2 v ts.length vs ob ∧ (∀ x, x ∈ ob → x ∈ bs) ∧
    (∀ (i : Nat) (ib : List Nat), bss[i]? = some ib → (∀ x, x ∈ ib → x ∈ bs ∧ ¬ x ∈ ob) ∧ ∀ (j : Nat) (jb : List Nat), bss[j]? = some jb → i ≠ j → ∀ x, x ∈ ib → ¬ x ∈ jb) ∧
    ∀ (i : Nat) (hi : i < ts.length), ∃ x ib, vs[i * 2 + o]? = some x ∧ vs[i * 2 + u]? = some (.int .i64 ts[i].2) ∧ bss[i]? = some ib ∧ Rw C 3 1 x ts[i].1.length (ints ts[i].1) ib
section
variable {H C C' : AHeap} {t' : TypeId} {o u : Nat} {v : Value} {ts : List (List Int × Int)} {bs bs' : List Nat} {A : Option Addr} {m c : Nat}
theorem OP.trans (h : OP C t' o u v ts bs) (l : AHeap.le C C') : OP C' t' o u v ts bs := by
  obtain ⟨vs, ob, bss, h1, h2, h3, h4⟩ := h
  refine ⟨vs, ob, bss, h1.trans l, h2, h3, fun i hi => ?_⟩
  obtain ⟨x, ib, e1, e2, e3, e4⟩ := h4 i hi
  exact ⟨x, ib, e1, e2, e3, e4.trans l⟩
theorem OP.chg (h : OP C t' o u v ts bs) (hc : Chg C C' bs') (hd : ∀ b, b ∈ bs → ¬ b ∈ bs') : OP C' t' o u v ts bs := by
  obtain ⟨vs, ob, bss, h1, h2, h3, h4⟩ := h
  refine ⟨vs, ob, bss, h1.chg hc fun y hy => hd y (h2 y hy), h2, h3, fun i hi => ?_⟩
  obtain ⟨x, ib, e1, e2, e3, e4⟩ := h4 i hi
  exact ⟨x, ib, e1, e2, e3, e4.chg hc fun y hy => hd y ((h3 i ib e3).1 y hy).1⟩
theorem OP.slice (h : OP C t' o u v ts bs) : ∃ A c, v = .slice A ts.length c := by
  obtain ⟨vs, ob, bss, h1, _⟩ := h
  exact h1.slice
theorem OP.fp (h : OP C t' o u (.slice A m c) ts bs) : FP C A o u ts ∧ m = ts.length := by
  obtain ⟨vs, ob, bss, h1, h2, h3, h4⟩ := h
  obtain ⟨f, rfl⟩ := h1.fl'
  refine ⟨fun i hi => ?_, rfl⟩
  obtain ⟨x, ib, e1, e2, e3, e4⟩ := h4 i hi
  obtain ⟨A', c', rfl, fx⟩ := e4.fl
  exact ⟨f.is (i := i * 2 + o) (List.getElem?_eq_some_iff.1 e1).1, A', c', f _ _ e1, f _ _ e2, fx⟩
/-- A row of numbers, changed in place. -/
theorem OP.inner (h : OP C t' o u (.slice A m c) ts bs) {i : Nat} (hi : i < ts.length) : A.isSome = true ∧ ∃ x ib, C.cell (adr A (i * 2 + o)) = some x ∧ Rw C 3 1 x ts[i].1.length (ints ts[i].1) ib ∧ (∀ y, y ∈ ib → y ∈ bs) ∧
    ∀ C' xs', xs'.length = ts[i].1.length → Chg C C' ib → Rw C' 3 1 x ts[i].1.length (ints xs') ib → OP C' t' o u (.slice A m c) (ts.set i (xs', ts[i].2)) bs := by
  obtain ⟨vs, ob, bss, h1, h2, h3, h4⟩ := h
  obtain ⟨x, ib, e1, e2, e3, e4⟩ := h4 i hi
  have hf := h1.fl'.1
  refine ⟨hf.is (i := i * 2 + o) ((List.getElem?_eq_some_iff.1 e1).1), x, ib, hf _ _ e1, e4, fun y hy => ((h3 i ib e3).1 y hy).1, fun C' xs' hl hc hw => ⟨vs, ob, bss, ?_, h2, h3, fun j hj => ?_⟩⟩
  · rw [List.length_set]
    exact h1.chg hc fun y hy hm => ((h3 i ib e3).1 y hm).2 hy
  · rw [List.length_set] at hj
    rw [List.getElem_set]
    split
    · rename_i e
      subst e
      exact ⟨x, ib, e1, e2, e3, by simp only; rw [hl]; exact hw⟩
    · rename_i e
      obtain ⟨x', ib', a1, a2, a3, a4⟩ := h4 j hj
      exact ⟨x', ib', a1, a2, a3, a4.chg hc ((h3 j ib' a3).2 i ib e3 (fun e' => e e'.symm))⟩
/-- A number, put in place. -/
theorem OP.num {K : Value → AHeap → Prop} {p : Int} (h : OP C t' o u (.slice A m c) ts bs) {i : Nat} (hi : i < ts.length) (hou : (o = 0 ∧ u = 1) ∨ (o = 1 ∧ u = 0)) (hK : ∀ C', Chg C C' bs → OP C' t' o u (.slice A m c) (ts.set i (ts[i].1, p)) bs → K undef C') : stK 1 (.pointer (adr A (i * 2 + u))) (.int .i64 p) K C := by
  obtain ⟨vs, ob, bss, h1, h2, h3, h4⟩ := h
  obtain ⟨b, cap, e, rfl, hn, hc, hl, hk⟩ := h1.open_ (by omega)
  simp only [Value.slice.injEq] at e
  obtain ⟨rfl, rfl, rfl⟩ := e
  rw [adr_lit, Nat.zero_add]
  refine st_kn hk rfl (by rw [vcI]; rfl) (by simp only; omega) (by rw [vcI]; simp [ocI]) (fun C' hc' ho' k' => ?_)
  rw [vcI] at k'
  simp only [setR] at k'
  have hm : ∀ y, y ∈ [b] → y ∈ bs := fun y hy => h2 y hy
  refine hK C' (hc'.mono hm) ⟨vs.set (i * 2 + u) (.int .i64 p), [b], bss, ?_, h2, h3, fun j hj => ?_⟩
  · rw [List.length_set]
    exact Rw.mk k' (by rw [List.length_set]; exact hl) hn hc
  · rw [List.length_set] at hj
    obtain ⟨x', ib', a1, a2, a3, a4⟩ := h4 j hj
    have hx : (ts.set i (ts[i].1, p))[j]'(by rw [List.length_set]; exact hj) = if i = j then (ts[i].1, p) else ts[j] := List.getElem_set ..
    have w' := a4.chg hc' fun y hy hm => ((h3 j ib' a3).1 y hy).2 hm
    rw [hx]
    refine ⟨x', ib', ?_, ?_, a3, ?_⟩
    · rw [List.getElem?_set_ne (by rcases hou with ⟨rfl, rfl⟩ | ⟨rfl, rfl⟩ <;> omega)]; exact a1
    · split
      · rename_i e; subst e
        rw [List.getElem?_set_self (by have := (List.getElem?_eq_some_iff.1 a2).1; omega)]
      · rename_i e
        rw [List.getElem?_set_ne (by rcases hou with ⟨rfl, rfl⟩ | ⟨rfl, rfl⟩ <;> omega)]; exact a2
    · split
      · rename_i e; subst e; exact w'
      · exact w'
theorem OP.off (h : OP C t' o u v ts bs) (hn : New H bs) : OP (C.off H) t' o u v ts bs := by
  obtain ⟨vs, ob, bss, h1, h2, h3, h4⟩ := h
  have w : ∀ {t : TypeId} {sz : Nat} {v : Value} {n : Nat} {xs : List Value} {cs : List Nat}, Rw C t sz v n xs cs → (∀ y, y ∈ cs → y ∈ bs) → Rw (C.off H) t sz v n xs cs := fun h hs => by
    rcases h with h | ⟨b, cap, h1, rfl, h3, h4, h5, h6⟩
    · exact .inl h
    · exact .inr ⟨b, cap, h1, rfl, h3, h4, h5, kn_off (hn b (hs b (by simp))) h6⟩
  refine ⟨vs, ob, bss, w h1 h2, h2, h3, fun i hi => ?_⟩
  obtain ⟨x, ib, e1, e2, e3, e4⟩ := h4 i hi
  exact ⟨x, ib, e1, e2, e3, w e4 fun y hy => ((h3 i ib e3).1 y hy).1⟩
end
end Go.Proofs.Ytfjhjfddgdokgaa
namespace Go.Proofs.Ytfjhjfddgdokgaa
set_option linter.all false
open Go Go.RowKit
set_option maxRecDepth 100000
variable (w0 : World) (H : AHeap) (K : Value → AHeap → Prop)
theorem rw_kn {C : AHeap} {t : TypeId} {sz : Nat} {v : Value} {n : Nat} {xs : List Value} {bs : List Nat} (h : Rw C t sz v n xs bs) : ∀ y, y ∈ bs → C y ≠ none := fun y hy => by
  rcases h with ⟨_, _, _, rfl⟩ | ⟨bb, cap, _, rfl, _, _, _, kk⟩
  · simp at hy
  · simp at hy; subst hy; exact kk.ne
/-- The pairs made so far, in blocks of their own. -/
def OPk (H C : AHeap) (b : Nat) (o u : Nat) (ts : List (List Int × Int)) (k : Nat) (vs : List Value) (bf : Nat → List Nat) : Prop :=
  ∀ i (hi : i < ts.length), i < k → ∃ x, vs[i * 2 + o]? = some x ∧ vs[i * 2 + u]? = some (.int .i64 ts[i].2) ∧ Rw C 3 1 x ts[i].1.length (ints ts[i].1) (bf i) ∧ (∀ y, y ∈ bf i → H y = none ∧ ¬ y = b) ∧ ∀ j, j < i → ∀ y, y ∈ bf i → ¬ y ∈ bf j
theorem OPk.op {H C : AHeap} {b o u : Nat} {t' : TypeId} {ts : List (List Int × Int)} {vs : List Value} {bf : Nat → List Nat} (h : OPk H C b o u ts ts.length vs bf) (hk : Kn C b ⟨vs, true, t', ts.length * 2⟩) (hl : vs.length = ts.length * 2) (hm : ts.length ≤ maxLen) (hb : H b = none) :
    OP C t' o u (.slice (some ⟨b, 0, none⟩) ts.length ts.length) ts (b :: ((List.range ts.length).map bf).flatten) ∧ New H (b :: ((List.range ts.length).map bf).flatten) ∧ ∀ y, y ∈ (b :: ((List.range ts.length).map bf).flatten) → C y ≠ none := by
  have at_ : ∀ i ib, ((List.range ts.length).map bf)[i]? = some ib → i < ts.length ∧ ib = bf i := fun i ib e => by
    rw [List.getElem?_map] at e
    rcases Nat.lt_or_ge i ts.length with hi | hi
    · rw [List.getElem?_range hi] at e
      simp only [Option.map_some, Option.some.injEq] at e
      exact ⟨hi, e.symm⟩
    · rw [List.getElem?_eq_none (by simpa using hi)] at e
      simp at e
  have mem : ∀ y, y ∈ ((List.range ts.length).map bf).flatten → ∃ i, i < ts.length ∧ y ∈ bf i := fun y hy => by
    simp only [List.mem_flatten, List.mem_map, List.mem_range] at hy
    obtain ⟨l, ⟨i, hi, rfl⟩, hy⟩ := hy
    exact ⟨i, hi, hy⟩
  refine ⟨⟨vs, [b], (List.range ts.length).map bf, Rw.mk hk hl (Nat.le_refl _) hm, fun x hx => by simp only [List.mem_cons, List.not_mem_nil, or_false] at hx; subst hx; exact List.mem_cons_self, fun i ib e => ?_, fun i hi => ?_⟩, fun y hy => ?_, fun y hy => ?_⟩
  · obtain ⟨hi, rfl⟩ := at_ i ib e
    obtain ⟨x, e1, e2, e3, e4, e5⟩ := h i hi hi
    refine ⟨fun y hy => ⟨List.mem_cons_of_mem _ ?_, by simpa using (e4 y hy).2⟩, fun j jb e' hne => ?_⟩
    · simp only [List.mem_flatten, List.mem_map, List.mem_range]
      exact ⟨_, ⟨i, hi, rfl⟩, hy⟩
    · obtain ⟨hj, rfl⟩ := at_ j jb e'
      rcases Nat.lt_or_gt_of_ne hne with hlt | hgt
      · intro y hy hy'
        obtain ⟨_, _, _, _, _, e5'⟩ := h j hj hj
        exact e5' i hlt y hy' hy
      · exact e5 j hgt
  · obtain ⟨x, e1, e2, e3, e4, e5⟩ := h i hi hi
    exact ⟨x, bf i, e1, e2, by rw [List.getElem?_map, List.getElem?_range hi]; rfl, e3⟩
  · simp only [List.mem_cons] at hy
    rcases hy with rfl | hy
    · exact hb
    · obtain ⟨i, hi, hy⟩ := mem y hy
      obtain ⟨x, e1, e2, e3, e4, e5⟩ := h i hi hi
      exact (e4 y hy).1
  · simp only [List.mem_cons] at hy
    rcases hy with rfl | hy
    · exact hk.ne
    · obtain ⟨i, hi, hy⟩ := mem y hy
      obtain ⟨x, e1, e2, e3, e4, e5⟩ := h i hi hi
      exact rw_kn e3 y hy
theorem OPk.put {H C C5 C6 : AHeap} {b o u k : Nat} {ts : List (List Int × Int)} {vs vs' : List Value} {bf : Nat → List Nat} {x : Value} {bs5 : List Nat} (h : OPk H C b o u ts k vs bf) (hk : k < ts.length) (hle : AHeap.le H C) (l5 : AHeap.le C C5) (n5 : New C bs5) (w5 : Rw C5 3 1 x ts[k].1.length (ints ts[k].1) bs5) (hc : Chg C5 C6 [b]) (kb : C b ≠ none)
    (g : ∀ j, ¬ (k * 2 ≤ j ∧ j < k * 2 + 2) → vs'[j]? = vs[j]?) (g1 : vs'[k * 2 + o]? = some x) (g2 : vs'[k * 2 + u]? = some (.int .i64 ts[k].2)) (ho : o < 2) (hu : u < 2) : OPk H C6 b o u ts (k + 1) vs' (fun i => if i = k then bs5 else bf i) := by
  intro i hi hik
  have nb : ¬ b ∈ bs5 := fun hm => kb (n5 b hm)
  have e : (fun i => if i = k then bs5 else bf i) i = if i = k then bs5 else bf i := rfl
  by_cases hi' : i = k
  · subst hi'
    refine ⟨x, g1, g2, ?_, ?_, ?_⟩
    · simp only [if_true]
      exact w5.chg hc fun y hy e => nb (by simp at e; exact e ▸ hy)
    · simp only [if_true]
      exact fun y hy => ⟨n5.le hle y hy, fun e => nb (e ▸ hy)⟩
    · intro j hj y hy hy'
      simp only [if_true] at hy
      simp only [if_neg (show ¬ j = i by omega)] at hy'
      obtain ⟨x', e1, e2, e3, e4, e5⟩ := h j (by omega) hj
      exact rw_kn e3 y hy' (n5 y hy)
  · obtain ⟨x', e1, e2, e3, e4, e5⟩ := h i hi (by omega)
    refine ⟨x', by rw [g _ (by omega)]; exact e1, by rw [g _ (by omega)]; exact e2, ?_, ?_, ?_⟩
    · simp only [if_neg hi']
      exact (e3.trans l5).chg hc fun y hy e => (e4 y hy).2 (by simpa using e)
    · simp only [if_neg hi']
      exact e4
    · intro j hj y hy
      simp only [if_neg hi'] at hy
      simp only [if_neg (show ¬ j = k by omega)]
      exact e5 j hj y hy
end Go.Proofs.Ytfjhjfddgdokgaa
namespace Go.Proofs.Ytfjhjfddgdokgaa
set_option linter.all false
open Go Go.RowKit
set_option maxRecDepth 100000
variable (w0 : World)
/-- No block stands in both. -/
abbrev Apart (a b : List Nat) : Prop := ∀ y, y ∈ a → ¬ y ∈ b
theorem Chg.kept {C C' : AHeap} {bs : List Nat} {y : Nat} (hc : Chg C C' bs) (h : C y ≠ none) (hd : ¬ y ∈ bs) : C' y ≠ none := by
  cases e : C y with
  | none => exact absurd e h
  | some k => exact (hc y k hd e).ne
theorem le_kept {C C' : AHeap} {y : Nat} (l : AHeap.le C C') (h : C y ≠ none) : C' y ≠ none := fun e => h (l.none e)
/-- A crew's rows, all of the call's own, no two in the same block. -/
structure OwC (C : AHeap) (c : Cr) (v0 v1 v2 v5 : Value) (b0 b1 b2 b5 : List Nat) : Prop where
  r0 : Rs C 29 111 5 v0 (c.codes.map qcells) b0
  r1 : OP C 125 0 1 v1 c.threads b1
  r2 : OP C 179 1 0 v2 c.boxes b2
  r5 : Rw C 3 1 v5 c.log.length (ints c.log) b5
  d01 : Apart b1 b0
  d02 : Apart b2 b0
  d05 : Apart b5 b0
  d12 : Apart b2 b1
  d15 : Apart b5 b1
  d25 : Apart b5 b2
  kn : ∀ y, y ∈ b0 ++ (b1 ++ (b2 ++ b5)) → C y ≠ none
theorem Apart.symm {a b : List Nat} (h : Apart a b) : Apart b a := fun y h1 h2 => h y h2 h1
theorem OwC.trans {C C' : AHeap} {c : Cr} {v0 v1 v2 v5 : Value} {b0 b1 b2 b5 : List Nat} (h : OwC C c v0 v1 v2 v5 b0 b1 b2 b5) (l : AHeap.le C C') : OwC C' c v0 v1 v2 v5 b0 b1 b2 b5 :=
  ⟨h.r0.trans l, h.r1.trans l, h.r2.trans l, h.r5.trans l, h.d01, h.d02, h.d05, h.d12, h.d15, h.d25, fun y hy => le_kept l (h.kn y hy)⟩
theorem OwC.chg {C C' : AHeap} {c : Cr} {v0 v1 v2 v5 : Value} {b0 b1 b2 b5 bs : List Nat} (h : OwC C c v0 v1 v2 v5 b0 b1 b2 b5) (hc : Chg C C' bs) (h0 : Apart b0 bs) (h1 : Apart b1 bs) (h2 : Apart b2 bs) (h5 : Apart b5 bs) : OwC C' c v0 v1 v2 v5 b0 b1 b2 b5 :=
  ⟨h.r0.chg hc h0, h.r1.chg hc h1, h.r2.chg hc h2, h.r5.chg hc h5, h.d01, h.d02, h.d05, h.d12, h.d15, h.d25, fun y hy => hc.kept (h.kn y hy) (by
    simp only [List.mem_append] at hy
    rcases hy with hy | hy | hy | hy
    · exact h0 y hy
    · exact h1 y hy
    · exact h2 y hy
    · exact h5 y hy)⟩
theorem OwC.crR {C : AHeap} {c : Cr} {v0 v1 v2 v5 : Value} {b0 b1 b2 b5 : List Nat} (h : OwC C c v0 v1 v2 v5 b0 b1 b2 b5) : ∃ B0 e0 B1 e1 B2 e2 B5 e5, v0 = .slice B0 c.codes.length e0 ∧ v1 = .slice B1 c.threads.length e1 ∧ v2 = .slice B2 c.boxes.length e2 ∧ v5 = .slice B5 c.log.length e5 ∧ CrR C c B0 B1 B2 B5 := by
  have r0 := h.r0
  have r1 := h.r1
  have r2 := h.r2
  obtain ⟨B0, e0, rfl⟩ := r0.slice
  obtain ⟨B1, e1, rfl⟩ := r1.slice
  obtain ⟨B2, e2, rfl⟩ := r2.slice
  obtain ⟨B5, e5, rfl, f5⟩ := h.r5.fl
  exact ⟨B0, e0, B1, e1, B2, e2, B5, e5, by rw [List.length_map], rfl, rfl, rfl, ⟨r0.fr, r1.fp.1, r2.fp.1, f5⟩⟩
theorem st_own {C : AHeap} {K : Value → AHeap → Prop} {x o n n' : Nat} {t : TypeId} {cs : List Value} {v : Value} (k : Kn C x ⟨cs, true, t, n'⟩) (vs : List Value) (hv : v.cells = vs.toArray) (hn : vs.length = n) (hl : o + n ≤ cs.length) (h1 : ∀ u ∈ vs, u.oneCell' = true)
    (h : ∀ C', Chg C C' [x] → Kn C' x ⟨setR cs o vs, true, t, n'⟩ → K undef C') : stK n (.pointer (some ⟨x, o, none⟩)) v K C := by
  refine st_kn k rfl (by rw [hv]; simpa using hn) hl (by rw [hv]; exact h1) (fun C' hc ho k => ?_)
  rw [hv] at k
  exact h C' hc k
section
variable (H : AHeap) (K : Value → AHeap → Prop) (c : Cr) (A0 : Option Addr) (c0 : Nat) (A1 : Option Addr) (c1 : Nat) (A2 : Option Addr) (c2 : Nat) (A5 : Option Addr) (c5 : Nat)
abbrev crz : List Value := [.slice none 0 0, .slice none 0 0, .slice none 0 0, .int .i64 0, .int .i64 0, .slice none 0 0]
end
/-- The valid crews. -/
def crewPre (c : Cr) : Bool := turnsOk c.codes.length c.turn c.last c.log && decide (c.threads.length = c.codes.length) && boxesOk c.boxes
def crewOk (c : Cr) : Bool := crewPre c && (c.threads.zip c.codes).all fun x => threadValid x.1.1 x.1.2 x.2 && codeThere x.2 c.boxes.length
theorem crewOk_pre {c : Cr} (h : crewPre c = false) : crewOk c = false := by rw [crewOk, h]; rfl
theorem crewOk_bad {c : Cr} {k : Nat} (h1 : k < c.threads.length) (h2 : k < c.codes.length) (h : (threadValid c.threads[k].1 c.threads[k].2 c.codes[k] && codeThere c.codes[k] c.boxes.length) = false) : crewOk c = false := by
  have : ((c.threads.zip c.codes).all fun x => threadValid x.1.1 x.1.2 x.2 && codeThere x.2 c.boxes.length) = false := by
    rw [List.all_eq_false]
    refine ⟨(c.threads[k], c.codes[k]), List.mem_iff_getElem.2 ⟨k, by rw [List.length_zip]; omega, by rw [List.getElem_zip]⟩, ?_⟩
    simp only [h]; simp
  rw [crewOk, this, Bool.and_false]
theorem crewOk_good {c : Cr} (h : crewPre c = true) (hk : ∀ k (h1 : k < c.threads.length) (h2 : k < c.codes.length), (threadValid c.threads[k].1 c.threads[k].2 c.codes[k] && codeThere c.codes[k] c.boxes.length) = true) : crewOk c = true := by
  rw [crewOk, h, Bool.true_and, List.all_eq_true]
  intro x hx
  obtain ⟨k, hk', rfl⟩ := List.mem_iff_getElem.1 hx
  rw [List.length_zip] at hk'
  rw [List.getElem_zip]
  exact hk k (by omega) (by omega)
end Go.Proofs.Ytfjhjfddgdokgaa
namespace Go.Proofs.Ytfjhjfddgdokgaa
set_option linter.all false
open Go Go.RowKit
set_option maxRecDepth 100000
variable (w0 : World)
theorem crewValid_ok (H : AHeap) (K : Value → AHeap → Prop) (c : Cr) (A0 : Option Addr) (c0 : Nat) (A1 : Option Addr) (c1 : Nat) (A2 : Option Addr) (c2 : Nat) (A5 : Option Addr) (c5 : Nat) (hc : CrR H c A0 A1 A2 A5) (hb : CrB 1048576 c) (h : K (.bool (crewOk c)) H) :
    ACalls Try.prog w0 35 [crv c A0 c0 A1 c1 A2 c2 A5 c5] H K := by
  have nc := hb.n0
  have nb := hb.n2
  refine acalls_of_sx mix Try.func35 of35 (by simp [ir35]) ?_; rw [ir35]; (try delta qT qI qC qO qM qG)
  repeat' (first | simp -implicitDefEqProofs only [zG1,zG2,zG3,zG4,zG5,zG6,zG7,eq_self,resV,rval,X.val,binv,fillL,setR,↓reduceIte,Nat.reduceEqDiff,Nat.reduceAdd,Nat.reduceMul,Nat.reduceLeDiff,Nat.reduceLT,Nat.reduceSub,reduceCtorEq,zGq])
  refine new_intro (fun x1 hx1 => ?_)
  have l1 := (AHeap.le.refl H).fresh hx1 ⟨crc c A0 c0 A1 c1 A2 c2 A5 c5, true, 62, 6⟩
  have k1 := Kn.same H x1 ⟨crc c A0 c0 A1 c1 A2 c2 A5 c5, true, 62, 6⟩
  generalize H.set x1 _ = C at l1 k1 ⊢
  have q := kn6 k1
  have hc' := hc.le l1
  cases e1 : turnsOk c.codes.length c.turn c.last c.log with
  | false =>
    rw [crewOk_pre (by rw [crewPre, e1]; rfl)] at h
    repeat' (first | simp -implicitDefEqProofs only [zG1,zG2,zG3,zG4,zG5,zG6,zG7,eq_self,resV,rval,X.val,binv,fillL,setR,↓reduceIte,Nat.reduceEqDiff,Nat.reduceAdd,Nat.reduceMul,Nat.reduceLeDiff,Nat.reduceLT,Nat.reduceSub,reduceCtorEq,zGq, q, e1] | (with_reducible refine turnsValid_ok _ _ _ _ _ _ A5 c5 _ hc'.f5 hb.n5 ?_))
    exact ⟨H, l1, h⟩
  | true =>
    by_cases hl : c.threads.length = c.codes.length
    case neg =>
      have e2 : ((c.threads.length : Int) != (c.codes.length : Int)) = true := by simp; omega
      rw [crewOk_pre (by rw [crewPre, e1, decide_eq_false hl]; rfl)] at h
      repeat' (first | simp -implicitDefEqProofs only [zG1,zG2,zG3,zG4,zG5,zG6,zG7,eq_self,resV,rval,X.val,binv,fillL,setR,↓reduceIte,Nat.reduceEqDiff,Nat.reduceAdd,Nat.reduceMul,Nat.reduceLeDiff,Nat.reduceLT,Nat.reduceSub,reduceCtorEq,zGq, q, e1, e2] | (with_reducible refine turnsValid_ok _ _ _ _ _ _ A5 c5 _ hc'.f5 hb.n5 ?_))
      exact ⟨H, l1, h⟩
    case pos =>
      have e2 : ((c.threads.length : Int) != (c.codes.length : Int)) = false := by simp; omega
      cases e3 : boxesOk c.boxes with
      | false =>
        rw [crewOk_pre (by rw [crewPre, e3, Bool.and_false])] at h
        repeat' (first | simp -implicitDefEqProofs only [zG1,zG2,zG3,zG4,zG5,zG6,zG7,eq_self,resV,rval,X.val,binv,fillL,setR,↓reduceIte,Nat.reduceEqDiff,Nat.reduceAdd,Nat.reduceMul,Nat.reduceLeDiff,Nat.reduceLT,Nat.reduceSub,reduceCtorEq,zGq, q, e1, e2, e3] | (with_reducible refine turnsValid_ok _ _ _ _ _ _ A5 c5 _ hc'.f5 hb.n5 ?_) | (with_reducible refine boxesValid_ok _ _ _ A2 c2 _ hc'.f2 hb.n2 hb.m2 ?_))
        exact ⟨H, l1, h⟩
      | true =>
        repeat' (first | simp -implicitDefEqProofs only [zG1,zG2,zG3,zG4,zG5,zG6,zG7,eq_self,resV,rval,X.val,binv,fillL,setR,↓reduceIte,Nat.reduceEqDiff,Nat.reduceAdd,Nat.reduceMul,Nat.reduceLeDiff,Nat.reduceLT,Nat.reduceSub,reduceCtorEq,zGq, q, e1, e2, e3] | (with_reducible refine turnsValid_ok _ _ _ _ _ _ A5 c5 _ hc'.f5 hb.n5 ?_) | (with_reducible refine boxesValid_ok _ _ _ A2 c2 _ hc'.f2 hb.n2 hb.m2 ?_))
        refine for_rule c.codes.length (fun k fr D => D = C ∧ (∀ i (h1 : i < c.threads.length) (h2 : i < c.codes.length), i < k → (threadValid c.threads[i].1 c.threads[i].2 c.codes[i] && codeThere c.codes[i] c.boxes.length) = true) ∧ fr 1 = .pointer (some ⟨x1, 0, none⟩) ∧ fr 34 = .slice A0 c.codes.length c0 ∧ fr 35 = .int .i64 c.codes.length ∧ fr 36 = .int .i64 k)
          ⟨rfl, fun i _ _ hi => absurd hi (Nat.not_lt_zero _), (by first | rfl | (simp only [put_at, ↓reduceIte, Nat.reduceEqDiff]; first | done | rfl | assumption) | simp [put_at, *]), (by first | rfl | (simp only [put_at, ↓reduceIte, Nat.reduceEqDiff]; first | done | rfl | assumption) | simp [put_at, *]), (by first | rfl | (simp only [put_at, ↓reduceIte, Nat.reduceEqDiff]; first | done | rfl | assumption) | simp [put_at, *]), (by first | rfl | (simp only [put_at, ↓reduceIte, Nat.reduceEqDiff]; first | done | rfl | assumption) | simp [put_at, *])⟩ ?_ ?_
        · rintro k fr D hk ⟨rfl, hw, f1, f34, f35, f36⟩ N hN
          have g0 := lt_dec hk
          have g1 := rng hk
          have g2 := up1 hk (by omega)
          have hk' : k < c.threads.length := by omega
          have g0' := lt_dec hk'
          have g1' := rng hk'
          obtain ⟨q1, A', c', q2, fl⟩ := hc'.f0 k hk
          obtain ⟨p1, B', d', p2, p3, fm⟩ := hc'.f1 k hk'
          rw [Nat.add_zero] at p2
          have hq := hb.m0 _ (List.getElem_mem hk)
          have hx := hb.m1 _ (List.getElem_mem hk')
          cases hv : threadValid c.threads[k].1 c.threads[k].2 c.codes[k] with
          | false =>
            rw [crewOk_bad hk' hk (by rw [hv]; rfl)] at h
            repeat' (first | simp -implicitDefEqProofs only [zG1,zG2,zG3,zG4,zG5,zG6,zG7,eq_self,resV,rval,X.val,binv,fillL,setR,↓reduceIte,Nat.reduceEqDiff,Nat.reduceAdd,Nat.reduceMul,Nat.reduceLeDiff,Nat.reduceLT,Nat.reduceSub,reduceCtorEq,zGq, q, f1, f34, f35, f36, g0, g1, g0', g1', q1, q2, p1, p2, p3, hv, Nat.mul_one] | (with_reducible refine threadValid_ok _ _ _ B' d' _ _ fm hx A' c' _ fl hq ?_))
            exact ⟨H, l1, h⟩
          | true =>
            repeat' (first | simp -implicitDefEqProofs only [zG1,zG2,zG3,zG4,zG5,zG6,zG7,eq_self,resV,rval,X.val,binv,fillL,setR,↓reduceIte,Nat.reduceEqDiff,Nat.reduceAdd,Nat.reduceMul,Nat.reduceLeDiff,Nat.reduceLT,Nat.reduceSub,reduceCtorEq,zGq, q, f1, f34, f35, f36, g0, g1, g0', g1', q1, q2, p1, p2, p3, hv, Nat.mul_one] | (with_reducible refine threadValid_ok _ _ _ B' d' _ _ fm hx A' c' _ fl hq ?_))
            refine for_rule c.codes[k].length (fun m fr E => E = D ∧ (∀ i (h1 : i < c.codes[k].length), i < m → quadThere c.codes[k][i] c.boxes.length = true) ∧ fr 1 = .pointer (some ⟨x1, 0, none⟩) ∧ fr 34 = .slice A0 c.codes.length c0 ∧ fr 35 = .int .i64 c.codes.length ∧ fr 36 = .int .i64 k ∧ fr 49 = .slice A' c.codes[k].length c' ∧ fr 50 = .int .i64 c.codes[k].length ∧ fr 51 = .int .i64 m)
              ⟨rfl, fun i _ hi => absurd hi (Nat.not_lt_zero _), (by first | rfl | (simp only [put_at, ↓reduceIte, Nat.reduceEqDiff]; first | done | rfl | assumption) | simp [put_at, *]), (by first | rfl | (simp only [put_at, ↓reduceIte, Nat.reduceEqDiff]; first | done | rfl | assumption) | simp [put_at, *]), (by first | rfl | (simp only [put_at, ↓reduceIte, Nat.reduceEqDiff]; first | done | rfl | assumption) | simp [put_at, *]), (by first | rfl | (simp only [put_at, ↓reduceIte, Nat.reduceEqDiff]; first | done | rfl | assumption) | simp [put_at, *]), (by first | rfl | (simp only [put_at, ↓reduceIte, Nat.reduceEqDiff]; first | done | rfl | assumption) | simp [put_at, *]), (by first | rfl | (simp only [put_at, ↓reduceIte, Nat.reduceEqDiff]; first | done | rfl | assumption) | simp [put_at, *]), (by first | rfl | (simp only [put_at, ↓reduceIte, Nat.reduceEqDiff]; first | done | rfl | assumption) | simp [put_at, *])⟩ ?_ ?_
            · rintro m fr E hm ⟨rfl, hz, f1, f34, f35, f36, f49, f50, f51⟩ N hN
              have g3 := lt_dec hm
              have g4 := rng hm
              have g5 := up1 hm (by omega)
              have p5 := fl.rdq hm
              have pA := fl.qd_is hm
              repeat' (first | simp -implicitDefEqProofs only [zG1,zG2,zG3,zG4,zG5,zG6,zG7,eq_self,resV,rval,X.val,binv,fillL,setR,↓reduceIte,Nat.reduceEqDiff,Nat.reduceAdd,Nat.reduceMul,Nat.reduceLeDiff,Nat.reduceLT,Nat.reduceSub,reduceCtorEq,zGp, f1, f34, f35, f36, f49, f50, f51, g3, g4, p5, pA])
              refine new_intro (fun x6 hx6 => ?_)
              have l6' := (AHeap.le.refl E).fresh hx6 ⟨[.int .i64 0, .int .i64 0, .int .i64 0, .int .i64 0, .int .i64 0], true, 111, 5⟩
              have k6' := (Kn.same E x6 ⟨[.int .i64 0, .int .i64 0, .int .i64 0, .int .i64 0, .int .i64 0], true, 111, 5⟩)
              have k1' := k1.trans l6'
              have n16 : ¬ x1 ∈ [x6] := fun hm => by
                simp only [List.mem_cons, List.not_mem_nil, or_false] at hm; subst hm; exact k1.ne hx6
              generalize E.set x6 _ = F0 at l6' k6' k1' ⊢
              repeat' (first | simp -implicitDefEqProofs only [zG1,zG2,zG3,zG4,zG5,zG6,zG7,eq_self,resV,rval,X.val,binv,fillL,setR,↓reduceIte,Nat.reduceEqDiff,Nat.reduceAdd,Nat.reduceMul,Nat.reduceLeDiff,Nat.reduceLT,Nat.reduceSub,reduceCtorEq,zGp, f1, f34, f35, f36, f49, f50, f51])
              refine st_own k6' [.int .i64 c.codes[k][m].op, .int .i64 c.codes[k][m].dst, .int .i64 c.codes[k][m].a, .int .i64 c.codes[k][m].b, .int .i64 c.codes[k][m].n] rfl rfl (by simp) (by simp [ocI]) (fun F hcF k6 => ?_)
              simp only [setR, List.set_cons_zero, List.set_cons_succ] at k6
              have l6 := hcF.keep l6' (New.one hx6)
              have r6 : F.rdn (some ⟨x6, 0, none⟩) 5 = some [.int .i64 c.codes[k][m].op, .int .i64 c.codes[k][m].dst, .int .i64 c.codes[k][m].a, .int .i64 c.codes[k][m].b, .int .i64 c.codes[k][m].n] := k6.rdn (l := [.int .i64 c.codes[k][m].op, .int .i64 c.codes[k][m].dst, .int .i64 c.codes[k][m].a, .int .i64 c.codes[k][m].b, .int .i64 c.codes[k][m].n]) (o := 0) fun j _ => by rw [Nat.zero_add]
              have q3 := (k1'.chg hcF n16).cell (j := 2) rfl
              cases hr : quadThere c.codes[k][m] c.boxes.length with
              | true =>
                repeat' (first | simp -implicitDefEqProofs only [zG1,zG2,zG3,zG4,zG5,zG6,zG7,eq_self,resV,rval,X.val,binv,fillL,setR,↓reduceIte,Nat.reduceEqDiff,Nat.reduceAdd,Nat.reduceMul,Nat.reduceLeDiff,Nat.reduceLT,Nat.reduceSub,reduceCtorEq,zGp, q3, r6, f1, f34, f35, f36, f49, f50, f51, g3, g4, g5, p5, pA, hr] | ((with_reducible refine rows_intro (fun _ hb => ?_)); try simp only [set_none, ne_eq] at hb) | ((with_reducible refine new_intro (fun _ hb => ?_)); try simp only [set_none, ne_eq] at hb) | (with_reducible refine draw_same ?_) | ((with_reducible refine gd_split ?_ (fun _ => ?_) (fun _ => ?_)); exact rfl) | ((with_reducible refine td_split ?_ (fun _ => ?_) (fun _ => ?_)); exact rfl) | (with_reducible refine c_split (fun _ => ?_) (fun _ => ?_)) | (with_reducible refine boxThere_ok _ _ _ c.codes[k][m] c.boxes.length ?_))
                refine hN _ _ E l6 ⟨rfl, fun i hi hik => ?_, (by first | rfl | (simp only [put_at, ↓reduceIte, Nat.reduceEqDiff]; first | done | rfl | assumption) | simp [put_at, *]), (by first | rfl | (simp only [put_at, ↓reduceIte, Nat.reduceEqDiff]; first | done | rfl | assumption) | simp [put_at, *]), (by first | rfl | (simp only [put_at, ↓reduceIte, Nat.reduceEqDiff]; first | done | rfl | assumption) | simp [put_at, *]), (by first | rfl | (simp only [put_at, ↓reduceIte, Nat.reduceEqDiff]; first | done | rfl | assumption) | simp [put_at, *]), (by first | rfl | (simp only [put_at, ↓reduceIte, Nat.reduceEqDiff]; first | done | rfl | assumption) | simp [put_at, *]), (by first | rfl | (simp only [put_at, ↓reduceIte, Nat.reduceEqDiff]; first | done | rfl | assumption) | simp [put_at, *]), (by first | rfl | (simp only [put_at, ↓reduceIte, Nat.reduceEqDiff]; first | done | rfl | assumption) | simp [put_at, *])⟩
                rcases Nat.lt_succ_iff_lt_or_eq.1 hik with hik | rfl
                · exact hz i hi hik
                · exact hr
              | false =>
                have e : codeThere c.codes[k] c.boxes.length = false := by
                  rw [codeThere, List.all_eq_false]
                  exact ⟨c.codes[k][m], List.getElem_mem hm, by rw [hr]; simp⟩
                rw [crewOk_bad hk' hk (by rw [e, Bool.and_false])] at h
                repeat' (first | simp -implicitDefEqProofs only [zG1,zG2,zG3,zG4,zG5,zG6,zG7,eq_self,resV,rval,X.val,binv,fillL,setR,↓reduceIte,Nat.reduceEqDiff,Nat.reduceAdd,Nat.reduceMul,Nat.reduceLeDiff,Nat.reduceLT,Nat.reduceSub,reduceCtorEq,zGp, q3, r6, f1, f34, f35, f36, f49, f50, f51, g3, g4, g5, p5, pA, hr] | ((with_reducible refine rows_intro (fun _ hb => ?_)); try simp only [set_none, ne_eq] at hb) | ((with_reducible refine new_intro (fun _ hb => ?_)); try simp only [set_none, ne_eq] at hb) | (with_reducible refine draw_same ?_) | ((with_reducible refine gd_split ?_ (fun _ => ?_) (fun _ => ?_)); exact rfl) | ((with_reducible refine td_split ?_ (fun _ => ?_) (fun _ => ?_)); exact rfl) | (with_reducible refine c_split (fun _ => ?_) (fun _ => ?_)) | (with_reducible refine boxThere_ok _ _ _ c.codes[k][m] c.boxes.length ?_))
                exact ⟨H, l1.trans l6, h⟩
            · rintro fr E ⟨rfl, hz, f1, f34, f35, f36, f49, f50, f51⟩ N
              have g3 : decide ((c.codes[k].length : Int) < (c.codes[k].length : Int)) = false := by simp
              have e : codeThere c.codes[k] c.boxes.length = true := by
                rw [codeThere, List.all_eq_true]
                intro q hq
                obtain ⟨i, hi, rfl⟩ := List.getElem_of_mem hq
                exact hz i hi hi
              repeat' (first | simp -implicitDefEqProofs only [zG1,zG2,zG3,zG4,zG5,zG6,zG7,eq_self,resV,rval,X.val,binv,fillL,setR,↓reduceIte,Nat.reduceEqDiff,Nat.reduceAdd,Nat.reduceMul,Nat.reduceLeDiff,Nat.reduceLT,Nat.reduceSub,reduceCtorEq,zGq, f1, f34, f35, f36, f49, f50, f51, g2, g3] | ((with_reducible refine rows_intro (fun _ hb => ?_)); try simp only [set_none, ne_eq] at hb) | ((with_reducible refine new_intro (fun _ hb => ?_)); try simp only [set_none, ne_eq] at hb) | (with_reducible refine draw_same ?_) | ((with_reducible refine gd_split ?_ (fun _ => ?_) (fun _ => ?_)); exact rfl) | ((with_reducible refine td_split ?_ (fun _ => ?_) (fun _ => ?_)); exact rfl) | (with_reducible refine c_split (fun _ => ?_) (fun _ => ?_)))
              refine hN _ _ _ (.refl _) ⟨rfl, fun i h1 h2 hik => ?_, (by first | rfl | (simp only [put_at, ↓reduceIte, Nat.reduceEqDiff]; first | done | rfl | assumption) | simp [put_at, *]), (by first | rfl | (simp only [put_at, ↓reduceIte, Nat.reduceEqDiff]; first | done | rfl | assumption) | simp [put_at, *]), (by first | rfl | (simp only [put_at, ↓reduceIte, Nat.reduceEqDiff]; first | done | rfl | assumption) | simp [put_at, *]), (by first | rfl | (simp only [put_at, ↓reduceIte, Nat.reduceEqDiff]; first | done | rfl | assumption) | simp [put_at, *])⟩
              rcases Nat.lt_succ_iff_lt_or_eq.1 hik with hik | rfl
              · exact hw i h1 h2 hik
              · rw [hv, e]; rfl
        · rintro fr D ⟨rfl, hw, f1, f34, f35, f36⟩ N
          have g0 : decide ((c.codes.length : Int) < (c.codes.length : Int)) = false := by simp
          rw [crewOk_good (by rw [crewPre, e1, e3, decide_eq_true hl]; rfl) fun i h1 h2 => hw i h1 h2 h2] at h
          repeat' (first | simp -implicitDefEqProofs only [zG1,zG2,zG3,zG4,zG5,zG6,zG7,eq_self,resV,rval,X.val,binv,fillL,setR,↓reduceIte,Nat.reduceEqDiff,Nat.reduceAdd,Nat.reduceMul,Nat.reduceLeDiff,Nat.reduceLT,Nat.reduceSub,reduceCtorEq,zGq, f1, f34, f35, f36, g0] | ((with_reducible refine rows_intro (fun _ hb => ?_)); try simp only [set_none, ne_eq] at hb) | ((with_reducible refine new_intro (fun _ hb => ?_)); try simp only [set_none, ne_eq] at hb) | (with_reducible refine draw_same ?_) | ((with_reducible refine gd_split ?_ (fun _ => ?_) (fun _ => ?_)); exact rfl) | ((with_reducible refine td_split ?_ (fun _ => ?_) (fun _ => ?_)); exact rfl) | (with_reducible refine c_split (fun _ => ?_) (fun _ => ?_)))
          exact ⟨H, l1, h⟩
end Go.Proofs.Ytfjhjfddgdokgaa
namespace Go.Proofs.Ytfjhjfddgdokgaa
set_option linter.all false
structure Fw (V : Type) where
  ok : V → Prop
  le : V → V → Prop
  join : V → V → V
  edges : Nat → V → List Nat
  tr : Nat → V → V
  ht : V → Nat
  refl : ∀ a, le a a
  trans : ∀ {a b c}, le a b → le b c → le a c
  anti : ∀ {a b}, ok a → ok b → le a b → le b a → a = b
  ok_join : ∀ {a b}, ok a → ok b → ok (join a b)
  ok_tr : ∀ {i a}, ok a → ok (tr i a)
  join_l : ∀ {a b}, ok a → ok b → le a (join a b)
  join_r : ∀ {a b}, ok a → ok b → le b (join a b)
  join_le : ∀ {a b c}, ok a → ok b → ok c → le a c → le b c → le (join a b) c
  mono_tr : ∀ {i a b}, ok a → ok b → le a b → le (tr i a) (tr i b)
  mono_ed : ∀ {i j a b}, ok a → ok b → le a b → j ∈ edges i a → j ∈ edges i b
  ht_lt : ∀ {a b}, ok a → ok b → join a b ≠ a → ht (join a b) < ht a
namespace Fw
variable {V : Type} (F : Fw V)
def Under (s c : List V) : Prop := ∀ (i : Nat) (v u : V), s[i]? = some v → c[i]? = some u → F.le v u
def Sats (s : List V) (i : Nat) (v : V) : Prop := ∀ j, j ∈ F.edges i v → ∀ u, s[j]? = some u → F.le (F.tr i v) u
def Oks (s : List V) : Prop := ∀ (i : Nat) (v : V), s[i]? = some v → F.ok v
def Closed (s0 c : List V) : Prop := c.length = s0.length ∧ F.Oks c ∧ F.Under s0 c ∧ ∀ i v, c[i]? = some v → F.Sats c i v
def Below (s0 s : List V) : Prop := s.length = s0.length ∧ F.Oks s ∧ F.Under s0 s ∧ ∀ c, F.Closed s0 c → F.Under s c
/-- v is below every solution at i. -/
def Lo (s0 : List V) (i : Nat) (v : V) : Prop := F.ok v ∧ ∀ c, F.Closed s0 c → ∀ u, c[i]? = some u → F.le v u
def pot (s : List V) : Nat := (s.map F.ht).sum
variable {F} {s0 s c w : List V}
theorem Below.lo (h : F.Below s0 s) {i : Nat} {v : V} (hv : s[i]? = some v) : F.Lo s0 i v := ⟨h.2.1 i v hv, fun c hc u hu => h.2.2.2 c hc i v u hv hu⟩
theorem set_get {i j : Nat} {u x : V} (hu : s[j]? = some u) : (s.set j x)[i]? = if i = j then some x else s[i]? := by
  have hj := (List.getElem?_eq_some_iff.1 hu).1
  rw [List.getElem?_set]
  by_cases h : j = i
  · subst h; rw [if_pos rfl, if_pos hj, if_pos rfl]
  · rw [if_neg h, if_neg (fun e => h e.symm)]
theorem Below.step (h : F.Below s0 s) {i j : Nat} {v u : V} (hv : F.Lo s0 i v) (hj : j ∈ F.edges i v) (hu : s[j]? = some u) (hi : i < s0.length) : F.Below s0 (s.set j (F.join u (F.tr i v))) := by
  have ou := h.2.1 j u hu
  have ot := F.ok_tr (i := i) hv.1
  refine ⟨by rw [List.length_set]; exact h.1, fun i' v' h' => ?_, fun i' a b ha hb => ?_, fun c hc i' a b ha hb => ?_⟩
  · rw [set_get hu] at h'
    split at h'
    · obtain rfl := Option.some.inj h'; exact F.ok_join ou ot
    · exact h.2.1 _ _ h'
  · rw [set_get hu] at hb
    split at hb
    · rename_i e; subst e
      obtain rfl := Option.some.inj hb
      exact F.trans (h.2.2.1 _ _ _ ha hu) (F.join_l ou ot)
    · exact h.2.2.1 _ _ _ ha hb
  · rw [set_get hu] at ha
    split at ha
    · rename_i e; subst e
      obtain rfl := Option.some.inj ha
      have hlt : i < c.length := by rw [hc.1]; exact hi
      have hci := List.getElem?_eq_getElem hlt
      have l1 := hv.2 c hc _ hci
      have oc := hc.2.1 _ _ hci
      exact F.join_le ou ot (hc.2.1 _ _ hb) (h.2.2.2 c hc _ _ _ hu hb) (F.trans (F.mono_tr hv.1 oc l1) (hc.2.2.2 _ _ hci _ (F.mono_ed hv.1 oc l1 hj) _ hb))
    · exact h.2.2.2 c hc _ _ _ ha hb
theorem pot_set : ∀ {s : List V} {j : Nat} {u x : V}, s[j]? = some u → F.pot (s.set j x) + F.ht u = F.pot s + F.ht x
  | [], j, _, _, h => by simp at h
  | a :: s, 0, u, x, h => by
    simp only [List.getElem?_cons_zero, Option.some.injEq] at h
    subst h
    simp only [pot, List.set_cons_zero, List.map_cons, List.sum_cons]; omega
  | a :: s, j + 1, u, x, h => by
    simp only [List.getElem?_cons_succ] at h
    have := pot_set (s := s) (j := j) (x := x) h
    simp only [pot, List.set_cons_succ, List.map_cons, List.sum_cons] at this ⊢; omega
theorem pot_lt {j : Nat} {u x : V} (h : s[j]? = some u) (hx : F.ht x < F.ht u) : F.pot (s.set j x) < F.pot s := by
  have := pot_set (F := F) (x := x) h
  omega
variable (F)
def Wk (s : List V) (w : List Nat) : Prop := ∀ i v, s[i]? = some v → i ∈ w ∨ F.Sats s i v
def Mid (s : List V) (w : List Nat) (x : Nat) (v : V) (k : Nat) : Prop :=
  (∀ i u, i ≠ x → s[i]? = some u → i ∈ w ∨ F.Sats s i u) ∧ (s[x]? = some v ∨ x ∈ w) ∧ ∀ j, j ∈ (F.edges x v).take k → ∀ u, s[j]? = some u → F.le (F.tr x v) u
variable {F}
theorem Mid.done {w : List Nat} {x : Nat} {v : V} {k : Nat} (h : F.Mid s w x v k) (hk : (F.edges x v).length ≤ k) : F.Wk s w := fun i u hu => by
  by_cases hi : i = x
  · subst hi
    rcases h.2.1 with h1 | h1
    · rw [h1] at hu
      obtain rfl := Option.some.inj hu
      exact .inr fun j hj u' hu' => h.2.2 j (by rw [List.take_of_length_le hk]; exact hj) u' hu'
    · exact .inl h1
  · exact h.1 i u hi hu
theorem take_mem {α : Type} {l : List α} {k : Nat} {x : α} (h : l[k]? = some x) {j : α} (hj : j ∈ l.take (k + 1)) : j ∈ l.take k ∨ j = x := by
  rw [List.take_add_one, h] at hj
  simpa using hj
theorem Mid.keep {w : List Nat} {x j : Nat} {v u : V} {k : Nat} (h : F.Mid s w x v k) (hj : (F.edges x v)[k]? = some j) (hu : s[j]? = some u) (hl : F.le (F.tr x v) u) : F.Mid s w x v (k + 1) :=
  ⟨h.1, h.2.1, fun j' hj' u' hu' => by
    rcases take_mem hj hj' with hm | rfl
    · exact h.2.2 j' hm u' hu'
    · rw [hu] at hu'; obtain rfl := Option.some.inj hu'; exact hl⟩
theorem Mid.push {w : List Nat} {x j : Nat} {v u y : V} {k : Nat} (h : F.Mid s w x v k) (hj : (F.edges x v)[k]? = some j) (hu : s[j]? = some u) (hl : F.le (F.tr x v) y) (hy : F.le u y) : F.Mid (s.set j y) (w ++ [j]) x v (k + 1) := by
  have up : ∀ i a, F.Sats s i a → F.Sats (s.set j y) i a := fun i a hs j' hj' u' hu' => by
    rw [set_get hu] at hu'
    split at hu'
    · rename_i e; subst e; obtain rfl := Option.some.inj hu'; exact F.trans (hs j' hj' u hu) hy
    · exact hs j' hj' u' hu'
  refine ⟨fun i a hi ha => ?_, ?_, fun j' hj' u' hu' => ?_⟩
  · rw [set_get hu] at ha
    split at ha
    · rename_i e; exact .inl (by simp [e])
    · exact (h.1 i a hi ha).imp (fun hm => by simp [hm]) (up i a)
  · by_cases e : x = j
    · exact .inr (by simp [e])
    · rw [set_get hu, if_neg e]; exact h.2.1.imp id fun hm => by simp [hm]
  · rw [set_get hu] at hu'
    split at hu'
    · obtain rfl := Option.some.inj hu'; exact hl
    · rename_i e
      rcases take_mem hj hj' with hm | rfl
      · exact h.2.2 j' hm u' hu'
      · exact absurd rfl e
variable (F)
def Rd (s0 st s : List V) (k : Nat) (b : Bool) : Prop := F.Below s0 s ∧ (b = false → s = st ∧ ∀ i v, i < k → s[i]? = some v → F.Sats s i v) ∧ (b = true → F.pot s < F.pot st)
def RdM (s0 st s : List V) (i : Nat) (v : V) (e : Nat) (b : Bool) : Prop := F.Below s0 s ∧ F.Lo s0 i v ∧ i < s0.length ∧
  (b = false → s = st ∧ st[i]? = some v ∧ (∀ i' v, i' < i → s[i']? = some v → F.Sats s i' v) ∧ ∀ j, j ∈ (F.edges i v).take e → ∀ u, s[j]? = some u → F.le (F.tr i v) u) ∧ (b = true → F.pot s < F.pot st)
variable {F} {st : List V} {b : Bool}
theorem Rd.start (h : F.Below s0 s) : F.Rd s0 s s 0 false := ⟨h, fun _ => ⟨rfl, fun i v hi => absurd hi (Nat.not_lt_zero _)⟩, fun h => by cases h⟩
theorem Rd.enter {k : Nat} {v : V} (h : F.Rd s0 st s k b) (hv : s[k]? = some v) : F.RdM s0 st s k v 0 b :=
  ⟨h.1, h.1.lo hv, by rw [← h.1.1]; exact (List.getElem?_eq_some_iff.1 hv).1, fun hb => ⟨(h.2.1 hb).1, by rw [← (h.2.1 hb).1]; exact hv, fun i u hi hu => (h.2.1 hb).2 i u hi hu, fun j hj => by simp at hj⟩, h.2.2⟩
theorem Rd.skip {k : Nat} {v : V} (h : F.Rd s0 st s k b) (hv : s[k]? = some v) (he : F.edges k v = []) : F.Rd s0 st s (k + 1) b :=
  ⟨h.1, fun hb => ⟨(h.2.1 hb).1, fun i u hi hu => by
    rcases Nat.lt_succ_iff_lt_or_eq.1 hi with hi | rfl
    · exact (h.2.1 hb).2 i u hi hu
    · rw [hv] at hu; obtain rfl := Option.some.inj hu; intro j hj; rw [he] at hj; cases hj⟩, h.2.2⟩
theorem RdM.exit {i e : Nat} {v : V} (h : F.RdM s0 st s i v e b) (he : (F.edges i v).length ≤ e) : F.Rd s0 st s (i + 1) b :=
  ⟨h.1, fun hb => ⟨(h.2.2.2.1 hb).1, fun i' u hi hu => by
    obtain ⟨e1, e2, e3, e4⟩ := h.2.2.2.1 hb
    rcases Nat.lt_succ_iff_lt_or_eq.1 hi with hi | rfl
    · exact e3 i' u hi hu
    · rw [e1, e2] at hu
      obtain rfl := Option.some.inj hu
      intro j hj u' hu'
      exact e4 j (by rw [List.take_of_length_le he]; exact hj) u' hu'⟩, h.2.2.2.2⟩
theorem RdM.keep {i e j : Nat} {v u : V} (h : F.RdM s0 st s i v e b) (hj : (F.edges i v)[e]? = some j) (hu : s[j]? = some u) (hl : F.le (F.tr i v) u) : F.RdM s0 st s i v (e + 1) b :=
  ⟨h.1, h.2.1, h.2.2.1, fun hb => by
    obtain ⟨e1, e2, e3, e4⟩ := h.2.2.2.1 hb
    refine ⟨e1, e2, e3, fun j' hj' u' hu' => ?_⟩
    rcases take_mem hj hj' with hm | rfl
    · exact e4 j' hm u' hu'
    · rw [hu] at hu'; obtain rfl := Option.some.inj hu'; exact hl, h.2.2.2.2⟩
theorem RdM.push {i e j : Nat} {v u : V} (h : F.RdM s0 st s i v e b) (hj : (F.edges i v)[e]? = some j) (hu : s[j]? = some u) (hne : F.join u (F.tr i v) ≠ u) : F.RdM s0 st (s.set j (F.join u (F.tr i v))) i v (e + 1) true := by
  have ou := h.1.2.1 j u hu
  have ot := F.ok_tr (i := i) h.2.1.1
  refine ⟨h.1.step h.2.1 (List.mem_of_getElem? hj) hu h.2.2.1, h.2.1, h.2.2.1, (fun hb => by cases hb), fun _ => ?_⟩
  have := pot_lt (F := F) hu (F.ht_lt ou ot hne)
  cases b with
  | false => rw [(h.2.2.2.1 rfl).1] at this ⊢; exact this
  | true => have := h.2.2.2.2 rfl; omega
end Fw
end Go.Proofs.Ytfjhjfddgdokgaa
namespace Go.Proofs.Ytfjhjfddgdokgaa
set_option linter.all false
open Go Go.RowKit
set_option maxRecDepth 100000
variable (w0 : World) (H : AHeap) (K : Value → AHeap → Prop)
def known (s : List (List Int)) : List Bool := s.map fun v => !decide (v = [])
end Go.Proofs.Ytfjhjfddgdokgaa
namespace Go.Proofs.Ytfjhjfddgdokgaa
set_option linter.all false
open Go Go.RowKit
set_option maxRecDepth 100000
variable (w0 : World) (H : AHeap) (K : Value → AHeap → Prop)
theorem qcells_oc' (qs : List Qd) : ∀ v ∈ qcells qs, v.oneCell' = true := by
  intro v hv
  simp only [qcells, List.mem_flatMap, Qd.cells, List.mem_cons, List.not_mem_nil, or_false] at hv
  obtain ⟨q, _, h | h | h | h | h⟩ := hv <;> subst h <;> rfl
end Go.Proofs.Ytfjhjfddgdokgaa
namespace Go.Proofs.Ytfjhjfddgdokgaa
set_option linter.all false
open Go Go.RowKit
set_option maxRecDepth 100000
variable (w0 : World)
theorem OP.app {C : AHeap} {K : Value → AHeap → Prop} {t' : TypeId} {o u : Nat} {v x : Value} {ts : List (List Int × Int)} {bs ib : List Nat} {z news : List Value} {xs : List Int} {p : Int} {bytes xc : Nat} (h : OP C t' o u v ts bs) (kb : ∀ y, y ∈ bs → C y ≠ none) (hx : Rw C 3 1 x xs.length (ints xs) ib) (hd : ∀ y, y ∈ ib → ¬ y ∈ bs) (hz : z.length = 2) (hl : news.length = 2) (h1c : ∀ w ∈ news, w.oneCell' = true) (ho : news[o]? = some x) (hu : news[u]? = some (.int .i64 p)) (ho2 : o < 2) (hu2 : u < 2)
    {xa : Option Addr} (hr : Fl C xa news) (hm : ts.length + 1 ≤ maxLen) (hB : (ts.length + 1) * bytes ≤ 140737488355328)
    (hK : ∀ v' C' bs', Chg C C' bs → (∀ y, y ∈ bs' → y ∈ bs ∨ y ∈ ib ∨ C y = none) → (∀ y, y ∈ bs' → C' y ≠ none) → OP C' t' o u v' (ts ++ [(xs, p)]) bs' → K v' C') : appK Try.prog w0 z t' bytes v (.slice xa 1 xc) K C := by
  obtain ⟨vs, ob, bss0, h1, h3, h4', h5'⟩ := h
  have hl0 : ts.length ≤ bss0.length := by
    rcases Nat.eq_zero_or_pos ts.length with h0 | h0
    · omega
    · obtain ⟨_, _, _, _, e, _⟩ := h5' (ts.length - 1) (by omega)
      have := (List.getElem?_eq_some_iff.1 e).1
      omega
  obtain ⟨bss, hbss⟩ : ∃ bss, bss = bss0.take ts.length := ⟨_, rfl⟩
  have h2 : bss.length = ts.length := by rw [hbss, List.length_take]; omega
  have sub : ∀ {i : Nat} {ib : List Nat}, bss[i]? = some ib → bss0[i]? = some ib := fun {i ib} e => by
    have hi := (List.getElem?_eq_some_iff.1 e).1
    rw [hbss, List.getElem?_take, if_pos (by omega)] at e
    exact e
  have h4 : ∀ (i : Nat) (ib : List Nat), bss[i]? = some ib → (∀ x, x ∈ ib → x ∈ bs ∧ ¬ x ∈ ob) ∧ ∀ (j : Nat) (jb : List Nat), bss[j]? = some jb → i ≠ j → ∀ x, x ∈ ib → ¬ x ∈ jb := fun i ib e => ⟨(h4' i ib (sub e)).1, fun j jb e' hne => (h4' i ib (sub e)).2 j jb (sub e') hne⟩
  have h5 : ∀ (i : Nat) (hi : i < ts.length), ∃ x ib, vs[i * 2 + o]? = some x ∧ vs[i * 2 + u]? = some (.int .i64 ts[i].2) ∧ bss[i]? = some ib ∧ Rw C 3 1 x ts[i].1.length (ints ts[i].1) ib := fun i hi => by
    obtain ⟨x, ib, e1, e2, e3, e4⟩ := h5' i hi
    exact ⟨x, ib, e1, e2, by rw [hbss, List.getElem?_take, if_pos hi]; exact e3, e4⟩
  have hvl : vs.length = ts.length * 2 := h1.len
  have h1' : Rw C t' z.length v ts.length vs ob := by rw [hz]; exact h1
  refine app_rw h1' (news := news) hr (by rw [hz, hl]) h1c hm hB (fun v' C' ob' hc' hn' w' => ?_)
  rw [hz] at w'
  have hdi : ∀ y, y ∈ ib → ¬ y ∈ ob' := fun y hy hm => by
    rcases hn' y hm with ho | ho
    · exact hd y hy (h3 y ho)
    · exact rw_kn hx y hy ho
  have hold : ∀ j jb, bss[j]? = some jb → ∀ y, y ∈ jb → ¬ y ∈ ob' := fun j jb hj y hy hm => by
    rcases hn' y hm with ho | ho
    · exact ((h4 j jb hj).1 y hy).2 ho
    · exact kb y ((h4 j jb hj).1 y hy).1 ho
  refine hK v' C' (ob' ++ (bs ++ ib).filter (fun y => !decide (y ∈ ob) || decide (y ∈ ob'))) (hc'.mono h3) (fun y hy => ?_) (fun y hy => ?_) ⟨vs ++ news, ob', bss ++ [ib], ?_, fun y hy => List.mem_append_left _ hy, fun j jb hj => ?_, fun j hj => ?_⟩
  · rcases List.mem_append.1 hy with hy | hy
    · rcases hn' y hy with ho | ho
      · exact .inl (h3 y ho)
      · exact .inr (.inr ho)
    · rcases List.mem_append.1 (List.mem_filter.1 hy).1 with hy | hy
      · exact .inl hy
      · exact .inr (.inl hy)
  · rcases List.mem_append.1 hy with hy | hy
    · exact rw_kn w' y hy
    · obtain ⟨hy1, hy2⟩ := List.mem_filter.1 hy
      simp only [Bool.or_eq_true, Bool.not_eq_true', decide_eq_false_iff_not, decide_eq_true_eq] at hy2
      rcases hy2 with hy2 | hy2
      · refine hc'.kept ?_ hy2
        rcases List.mem_append.1 hy1 with hy1 | hy1
        · exact kb y hy1
        · exact rw_kn hx y hy1
      · exact rw_kn w' y hy2
  · rw [List.length_append]; exact w'
  · have inn : ∀ y, y ∈ bs ∨ y ∈ ib → ¬ y ∈ ob → y ∈ ob' ++ (bs ++ ib).filter (fun y => !decide (y ∈ ob) || decide (y ∈ ob')) := fun y hy hno =>
      List.mem_append_right _ (List.mem_filter.2 ⟨List.mem_append.2 hy, by simp [hno]⟩)
    have last : ∀ {j : Nat} {jb : List Nat}, bss.length ≤ j → (bss ++ [ib])[j]? = some jb → j = bss.length ∧ jb = ib := fun {j jb} hge e => by
      rw [List.getElem?_append_right hge] at e
      have : j - bss.length = 0 := by
        rcases Nat.eq_zero_or_pos (j - bss.length) with h0 | h0
        · exact h0
        · rw [List.getElem?_eq_none (by simp; omega)] at e; cases e
      rw [this] at e
      simp only [List.getElem?_cons_zero, Option.some.injEq] at e
      exact ⟨by omega, e.symm⟩
    rcases Nat.lt_or_ge j bss.length with hjl | hjl
    · rw [List.getElem?_append_left hjl] at hj
      refine ⟨fun y hy => ⟨inn y (.inl ((h4 j jb hj).1 y hy).1) ((h4 j jb hj).1 y hy).2, hold j jb hj y hy⟩, fun j' jb' hj' hne y hy hm => ?_⟩
      rcases Nat.lt_or_ge j' bss.length with hjl' | hjl'
      · rw [List.getElem?_append_left hjl'] at hj'
        exact (h4 j jb hj).2 j' jb' hj' hne y hy hm
      · obtain ⟨-, rfl⟩ := last hjl' hj'
        exact hd y hm ((h4 j jb hj).1 y hy).1
    · obtain ⟨rfl, rfl⟩ := last hjl hj
      refine ⟨fun y hy => ⟨inn y (.inr hy) fun ho => hd y hy (h3 y ho), hdi y hy⟩, fun j' jb' hj' hne y hy hm => ?_⟩
      rcases Nat.lt_or_ge j' bss.length with hjl' | hjl'
      · rw [List.getElem?_append_left hjl'] at hj'
        exact hd y hy ((h4 j' jb' hj').1 y hm).1
      · obtain ⟨rfl, -⟩ := last hjl' hj'
        exact hne rfl
  · rw [List.length_append, List.length_cons, List.length_nil] at hj
    rcases Nat.lt_or_ge j ts.length with hjl | hjl
    · obtain ⟨x', ib', a1, a2, a3, a4⟩ := h5 j hjl
      refine ⟨x', ib', ?_, ?_, ?_, ?_⟩
      · rw [List.getElem?_append_left (List.getElem?_eq_some_iff.1 a1).1]; exact a1
      · rw [List.getElem?_append_left (List.getElem?_eq_some_iff.1 a2).1, List.getElem_append_left hjl]; exact a2
      · rw [List.getElem?_append_left (List.getElem?_eq_some_iff.1 a3).1]; exact a3
      · rw [List.getElem_append_left hjl]; exact a4.chg hc' fun y hy => ((h4 j ib' a3).1 y hy).2
    · obtain rfl : j = ts.length := by omega
      refine ⟨x, ib, ?_, ?_, ?_, ?_⟩
      · rw [List.getElem?_append_right (by omega), hvl, Nat.add_sub_cancel_left]; exact ho
      · rw [List.getElem?_append_right (by omega), hvl, Nat.add_sub_cancel_left, List.getElem_append_right (by omega)]; simpa using hu
      · rw [List.getElem?_append_right (by omega), h2, Nat.sub_self]; rfl
      · rw [List.getElem_append_right (by omega)]
        simp only [Nat.sub_self, List.getElem_cons_zero]
        exact hx.chg hc' fun y hy hm => hd y hy (h3 y hm)
theorem OP.nil_ (C : AHeap) (t' : TypeId) (o u : Nat) : OP C t' o u (.slice none 0 0) [] [] := ⟨[], [], [], .inl ⟨rfl, rfl, rfl, rfl⟩, fun _ h => (by cases h), fun _ _ h => (by simp at h), fun i hi => absurd hi (Nat.not_lt_zero _)⟩
theorem OP.empty {C : AHeap} {t' : TypeId} {v : Value} {bs : List Nat} (h : Rw C t' 2 v 0 [] bs) (o u : Nat) : OP C t' o u v [] bs := ⟨[], bs, [], h, fun _ h => h, fun _ _ h => (by simp at h), fun i hi => absurd hi (Nat.not_lt_zero _)⟩
end Go.Proofs.Ytfjhjfddgdokgaa
namespace Go.Proofs.Ytfjhjfddgdokgaa
set_option linter.all false
open Go Go.RowKit
set_option maxRecDepth 100000
variable (w0 : World)
abbrev qmap (L : List (List Qd)) : List (List Value) := L.map qcells
theorem qmap_take {L : List (List Qd)} {k : Nat} (h : k < L.length) : qmap (L.take (k + 1)) = qmap (L.take k) ++ [qcells L[k]] := by
  have e : L.take (k + 1) = L.take k ++ [L[k]] := by rw [List.take_add_one, List.getElem?_eq_getElem h]; rfl
  simp only [qmap, e, List.map_append, List.map_cons, List.map_nil]
def bx0 (rs : List Int) : List (List Int × Int) := rs.map fun r => ([], r)
theorem bx0_take {rs : List Int} {k : Nat} (h : k < rs.length) : bx0 (rs.take (k + 1)) = bx0 (rs.take k) ++ [([], rs[k])] := by
  have e : rs.take (k + 1) = rs.take k ++ [rs[k]] := by rw [List.take_add_one, List.getElem?_eq_getElem h]; rfl
  simp only [bx0, e, List.map_append, List.map_cons, List.map_nil]
theorem bx0_len (rs : List Int) : (bx0 rs).length = rs.length := by simp [bx0]
section
variable (H : AHeap) (K : Value → AHeap → Prop)
theorem cloneQ_any (A : Option Addr) (c : Nat) (qs : List Qd) (hx : Fl H A (qcells qs)) (hn : qs.length ≤ 1048576) (h : ∀ v C bs, AHeap.le H C → New H bs → Rw C 111 5 v qs.length (qcells qs) bs → K v C) :
    ACalls Try.prog w0 123 [.slice A qs.length c] H K := by
  cases A with
  | none =>
    have e : qs = [] := by
      cases qs with
      | nil => rfl
      | cons z zs => have := hx.qd_is (i := 0) (by simp); cases this
    subst e
    refine acalls_of_sx mix Try.func123 of123 (by simp [ir123]) ?_; rw [ir123]; (try delta qT qI qC qO qM qG)
    repeat' (first | simp -implicitDefEqProofs only [zG1,zG2,zG3,zG4,zG5,zG6,zG7,eq_self,resV,rval,X.val,binv,fillL,setR,↓reduceIte,Nat.reduceEqDiff,Nat.reduceAdd,Nat.reduceMul,Nat.reduceLeDiff,Nat.reduceLT,Nat.reduceSub,reduceCtorEq,zGp] | ((with_reducible refine rows_intro (fun _ hb => ?_)); try simp only [set_none, ne_eq] at hb) | ((with_reducible refine new_intro (fun _ hb => ?_)); try simp only [set_none, ne_eq] at hb) | (with_reducible refine draw_same ?_) | ((with_reducible refine gd_split ?_ (fun _ => ?_) (fun _ => ?_)); exact rfl) | ((with_reducible refine td_split ?_ (fun _ => ?_) (fun _ => ?_)); exact rfl) | (with_reducible refine c_split (fun _ => ?_) (fun _ => ?_)))
    all_goals first | exact ret_same (h _ _ [] (.refl _) (New.nil _) (.inl ⟨rfl, rfl, rfl, rfl⟩)) | (exact absurd (show (none : Option Addr).isNone = false by assumption) (by simp))
  | some a =>
    refine acalls_of_sx mix Try.func123 of123 (by simp [ir123]) ?_; rw [ir123]; (try delta qT qI qC qO qM qG)
    repeat' (first | simp -implicitDefEqProofs only [zG1,zG2,zG3,zG4,zG5,zG6,zG7,eq_self,resV,rval,X.val,binv,fillL,setR,↓reduceIte,Nat.reduceEqDiff,Nat.reduceAdd,Nat.reduceMul,Nat.reduceLeDiff,Nat.reduceLT,Nat.reduceSub,reduceCtorEq,zGp] | ((with_reducible refine rows_intro (fun _ hb => ?_)); try simp only [set_none, ne_eq] at hb) | ((with_reducible refine new_intro (fun _ hb => ?_)); try simp only [set_none, ne_eq] at hb) | (with_reducible refine draw_same ?_) | ((with_reducible refine gd_split ?_ (fun _ => ?_) (fun _ => ?_)); exact rfl) | ((with_reducible refine td_split ?_ (fun _ => ?_) (fun _ => ?_)); exact rfl) | (with_reducible refine c_split (fun _ => ?_) (fun _ => ?_)))
    have l1 := (AHeap.le.refl H).fresh hb ⟨[], true, 111, 0⟩
    refine app_rw (n := 0) (xs := []) (news := qcells qs) (Rw.mk (Kn.same _ _ _) rfl (Nat.le_refl _) (Nat.zero_le _)) (hx.le l1) (qcells_len _) (qcells_oc' _) (by simp only [maxLen]; omega) (by omega) (fun v3 C3 bs3 hc3 hn3 w3 => ?_)
    rw [Nat.zero_add, List.nil_append] at w3
    repeat' (first | simp -implicitDefEqProofs only [zG1,zG2,zG3,zG4,zG5,zG6,zG7,eq_self,resV,rval,X.val,binv,fillL,setR,↓reduceIte,Nat.reduceEqDiff,Nat.reduceAdd,Nat.reduceMul,Nat.reduceLeDiff,Nat.reduceLT,Nat.reduceSub,reduceCtorEq,zGp] | ((with_reducible refine rows_intro (fun _ hb => ?_)); try simp only [set_none, ne_eq] at hb) | ((with_reducible refine new_intro (fun _ hb => ?_)); try simp only [set_none, ne_eq] at hb) | (with_reducible refine draw_same ?_) | ((with_reducible refine gd_split ?_ (fun _ => ?_) (fun _ => ?_)); exact rfl) | ((with_reducible refine td_split ?_ (fun _ => ?_) (fun _ => ?_)); exact rfl) | (with_reducible refine c_split (fun _ => ?_) (fun _ => ?_)))
    refine ret_same (h _ _ bs3 (hc3.keep l1 (New.one hb)) (fun y hy => ?_) w3)
    rcases hn3 y hy with hm | hm
    · simp at hm; rw [hm]; exact hb
    · exact l1.none hm
theorem codesCopy_ok (A : Option Addr) (c : Nat) (L : List (List Qd)) (hx : FR H A L) (hm : L.length ≤ 1048576) (hL : ∀ x ∈ L, x.length ≤ 1048576)
    (h : ∀ v C bs, AHeap.le H C → New H bs → (∀ y, y ∈ bs → C y ≠ none) → Rs C 29 111 5 v (qmap L) bs → K v C) :
    ACalls Try.prog w0 100 [.slice A L.length c] H K := by
  refine acalls_of_sx mix Try.func100 of100 (by simp [ir100]) ?_; rw [ir100]; (try delta qT qI qC qO qM qG)
  repeat' (first | simp -implicitDefEqProofs only [zG1,zG2,zG3,zG4,zG5,zG6,zG7,eq_self,resV,rval,X.val,binv,fillL,setR,↓reduceIte,Nat.reduceEqDiff,Nat.reduceAdd,Nat.reduceMul,Nat.reduceLeDiff,Nat.reduceLT,Nat.reduceSub,reduceCtorEq,zGq] | ((with_reducible refine rows_intro (fun _ hb => ?_)); try simp only [set_none, ne_eq] at hb) | ((with_reducible refine new_intro (fun _ hb => ?_)); try simp only [set_none, ne_eq] at hb) | (with_reducible refine draw_same ?_) | ((with_reducible refine gd_split ?_ (fun _ => ?_) (fun _ => ?_)); exact rfl) | ((with_reducible refine td_split ?_ (fun _ => ?_) (fun _ => ?_)); exact rfl) | (with_reducible refine c_split (fun _ => ?_) (fun _ => ?_)))
  refine for_rule L.length (fun k fr C => ∃ v bs, AHeap.le H C ∧ New H bs ∧ Rs C 29 111 5 v (qmap (L.take k)) bs ∧ fr 3 = v ∧ fr 6 = .slice A L.length c ∧ fr 7 = .int .i64 L.length ∧ fr 8 = .int .i64 k)
    ⟨_, [], .refl _, New.nil _, Rs.nil_ _ _ _ _, (by first | rfl | (simp only [put_at, ↓reduceIte, Nat.reduceEqDiff]; first | done | rfl | assumption) | simp [put_at, *]), (by first | rfl | (simp only [put_at, ↓reduceIte, Nat.reduceEqDiff]; first | done | rfl | assumption) | simp [put_at, *]), (by first | rfl | (simp only [put_at, ↓reduceIte, Nat.reduceEqDiff]; first | done | rfl | assumption) | simp [put_at, *]), (by first | rfl | (simp only [put_at, ↓reduceIte, Nat.reduceEqDiff]; first | done | rfl | assumption) | simp [put_at, *])⟩ ?_ ?_
  · rintro k fr C hk ⟨v, bs', hle, hn', hR', f3, f6, f7, f8⟩ N hN
    obtain ⟨bs, hss, hne, hR⟩ := hR'.tight
    obtain ⟨V1, e1, rfl⟩ := hR.slice
    have g0 := lt_dec hk
    have g1 := rng hk
    have g2 := up1 hk (by omega)
    obtain ⟨gA, A', c', q1, fl⟩ := (hx.le hle) k hk
    repeat' (first | simp -implicitDefEqProofs only [zG1,zG2,zG3,zG4,zG5,zG6,zG7,eq_self,resV,rval,X.val,binv,fillL,setR,↓reduceIte,Nat.reduceEqDiff,Nat.reduceAdd,Nat.reduceMul,Nat.reduceLeDiff,Nat.reduceLT,Nat.reduceSub,reduceCtorEq,zGq, f3, f6, f7, f8, g0, g1, gA, q1, Nat.mul_one])
    refine cloneQ_any w0 C _ A' c' L[k] fl (hL _ (List.getElem_mem hk)) (fun v8 C2 b8 l2 new8 w8 => ?_)
    obtain ⟨V8, e8, rfl, -⟩ := w8.fl
    repeat' (first | simp -implicitDefEqProofs only [zG1,zG2,zG3,zG4,zG5,zG6,zG7,eq_self,resV,rval,X.val,binv,fillL,setR,↓reduceIte,Nat.reduceEqDiff,Nat.reduceAdd,Nat.reduceMul,Nat.reduceLeDiff,Nat.reduceLT,Nat.reduceSub,reduceCtorEq,zGq, f3, f6, f7, f8])
    refine rows_intro (fun x20 h20 => ?_)
    have l20 := (AHeap.le.refl C2).fresh h20 ⟨[.slice V8 L[k].length e8], true, 29, 1⟩
    have fl20 : Fl (C2.set x20 ⟨[.slice V8 L[k].length e8], true, 29, 1⟩) (some ⟨x20, 0, none⟩) [.slice V8 L[k].length e8] := Fl.blk _ _ _ _ fun _ _ h => h
    generalize C2.set x20 _ = C3 at l20 fl20 ⊢
    repeat' (first | simp -implicitDefEqProofs only [zG1,zG2,zG3,zG4,zG5,zG6,zG7,eq_self,resV,rval,X.val,binv,fillL,setR,↓reduceIte,Nat.reduceEqDiff,Nat.reduceAdd,Nat.reduceMul,Nat.reduceLeDiff,Nat.reduceLT,Nat.reduceSub,reduceCtorEq,zGq, f3, f6, f7, f8])
    have L3 := hle.trans (l2.trans l20)
    refine (hR.trans (l2.trans l20)).app (w8.trans l20) (fun y hy hm => hne y hm (new8 y hy)) rfl fl20 (by simp [maxLen]; omega) (by simp; omega) (fun v9 C9 b9 h9 n9 R9 => ?_)
    rw [← qmap_take hk] at R9
    repeat' (first | simp -implicitDefEqProofs only [zG1,zG2,zG3,zG4,zG5,zG6,zG7,eq_self,resV,rval,X.val,binv,fillL,setR,↓reduceIte,Nat.reduceEqDiff,Nat.reduceAdd,Nat.reduceMul,Nat.reduceLeDiff,Nat.reduceLT,Nat.reduceSub,reduceCtorEq,zGq, f3, f6, f7, f8, g2])
    refine hN _ _ _ (.refl _) ⟨v9, b9, h9.keep L3 (fun y hy => hn' y (hss y hy)), fun y hy => ?_, R9, (by first | rfl | (simp only [put_at, ↓reduceIte, Nat.reduceEqDiff]; first | done | rfl | assumption) | simp [put_at, *]), (by first | rfl | (simp only [put_at, ↓reduceIte, Nat.reduceEqDiff]; first | done | rfl | assumption) | simp [put_at, *]), (by first | rfl | (simp only [put_at, ↓reduceIte, Nat.reduceEqDiff]; first | done | rfl | assumption) | simp [put_at, *]), (by first | rfl | (simp only [put_at, ↓reduceIte, Nat.reduceEqDiff]; first | done | rfl | assumption) | simp [put_at, *])⟩
    rcases n9 y hy with hm | hm | hm
    · exact hn' y (hss y hm)
    · exact hle.none (new8 y hm)
    · exact L3.none hm
  · rintro fr C ⟨v, bs', hle, hn', hR', f3, f6, f7, f8⟩ N
    have g0 : decide ((L.length : Int) < (L.length : Int)) = false := by simp
    rw [List.take_length] at hR'
    obtain ⟨bs, hss, hne, hR⟩ := hR'.tight
    repeat' (first | simp -implicitDefEqProofs only [zG1,zG2,zG3,zG4,zG5,zG6,zG7,eq_self,resV,rval,X.val,binv,fillL,setR,↓reduceIte,Nat.reduceEqDiff,Nat.reduceAdd,Nat.reduceMul,Nat.reduceLeDiff,Nat.reduceLT,Nat.reduceSub,reduceCtorEq,zGq, f3, f6, f7, f8, g0] | ((with_reducible refine rows_intro (fun _ hb => ?_)); try simp only [set_none, ne_eq] at hb) | ((with_reducible refine new_intro (fun _ hb => ?_)); try simp only [set_none, ne_eq] at hb) | (with_reducible refine draw_same ?_) | ((with_reducible refine gd_split ?_ (fun _ => ?_) (fun _ => ?_)); exact rfl) | ((with_reducible refine td_split ?_ (fun _ => ?_) (fun _ => ?_)); exact rfl) | (with_reducible refine c_split (fun _ => ?_) (fun _ => ?_)))
    exact ret_same (h _ _ bs hle (fun y hy => hn' y (hss y hy)) hne hR)
theorem l24Codes_ok (A : Option Addr) (c : Nat) (L : List (List Qd)) (hx : FR H A L) (hm : L.length ≤ 1048576) (hL : ∀ x ∈ L, x.length ≤ 1048576)
    (h : ∀ v C bs, AHeap.le H C → New H bs → (∀ y, y ∈ bs → C y ≠ none) → Rs C 29 111 5 v (qmap L) bs → K v C) :
    ACalls Try.prog w0 98 [.slice A L.length c] H K := by
  refine acalls_of_sx mix Try.func98 of98 (by simp [ir98]) ?_; rw [ir98]; (try delta qT qI qC qO qM qG)
  repeat' (first | simp -implicitDefEqProofs only [zG1,zG2,zG3,zG4,zG5,zG6,zG7,eq_self,resV,rval,X.val,binv,fillL,setR,↓reduceIte,Nat.reduceEqDiff,Nat.reduceAdd,Nat.reduceMul,Nat.reduceLeDiff,Nat.reduceLT,Nat.reduceSub,reduceCtorEq,zGq] | ((with_reducible refine rows_intro (fun _ hb => ?_)); try simp only [set_none, ne_eq] at hb) | ((with_reducible refine new_intro (fun _ hb => ?_)); try simp only [set_none, ne_eq] at hb) | (with_reducible refine draw_same ?_) | ((with_reducible refine gd_split ?_ (fun _ => ?_) (fun _ => ?_)); exact rfl) | ((with_reducible refine td_split ?_ (fun _ => ?_) (fun _ => ?_)); exact rfl) | (with_reducible refine c_split (fun _ => ?_) (fun _ => ?_)))
  rename_i x5
  have h5 : H x5 = none := by assumption
  have l5 := (AHeap.le.refl H).fresh h5 ⟨[], true, 29, 0⟩
  have k5 := Kn.same H x5 ⟨[], true, 29, 0⟩
  generalize H.set x5 _ = C0 at l5 k5 ⊢
  refine for_rule L.length (fun k fr C => ∃ v bs, AHeap.le H C ∧ New H bs ∧ Rs C 29 111 5 v (qmap (L.take k)) bs ∧ fr 0 = .slice A L.length c ∧ fr 3 = v ∧ fr 4 = .int .i64 k)
    ⟨_, [x5], l5, New.one h5, Rs.empty (Rw.mk k5 rfl (Nat.le_refl _) (Nat.zero_le _)) _ _, (by first | rfl | (simp only [put_at, ↓reduceIte, Nat.reduceEqDiff]; first | done | rfl | assumption) | simp [put_at, *]), (by first | rfl | (simp only [put_at, ↓reduceIte, Nat.reduceEqDiff]; first | done | rfl | assumption) | simp [put_at, *]), (by first | rfl | (simp only [put_at, ↓reduceIte, Nat.reduceEqDiff]; first | done | rfl | assumption) | simp [put_at, *])⟩ ?_ ?_
  · rintro k fr C hk ⟨v, bs', hle, hn', hR', f0, f3, f4⟩ N hN
    obtain ⟨bs, hss, hne, hR⟩ := hR'.tight
    obtain ⟨V1, e1, rfl⟩ := hR.slice
    have g0 := lt_dec hk
    have g1 := rng hk
    have g2 := up1 hk (by omega)
    obtain ⟨gB, A', c', q1, fl⟩ := (hx.le hle) k hk
    have hLk := hL _ (List.getElem_mem hk)
    repeat' (first | simp -implicitDefEqProofs only [zG1,zG2,zG3,zG4,zG5,zG6,zG7,eq_self,resV,rval,X.val,binv,fillL,setR,↓reduceIte,Nat.reduceEqDiff,Nat.reduceAdd,Nat.reduceMul,Nat.reduceLeDiff,Nat.reduceLT,Nat.reduceSub,reduceCtorEq,zGq, f0, f3, f4, g0, g1, gB, q1])
    refine rows_intro (fun x13 h13 => ?_)
    have l13 := (AHeap.le.refl C).fresh h13 ⟨[], true, 111, 0⟩
    have k13 := Kn.same C x13 ⟨[], true, 111, 0⟩
    change putK _ _ _ _ (C.set x13 ⟨[], true, 111, 0⟩)
    generalize C.set x13 _ = C1 at l13 k13 ⊢
    replace q1 := l13.cell q1
    repeat' (first | simp -implicitDefEqProofs only [zG1,zG2,zG3,zG4,zG5,zG6,zG7,eq_self,resV,rval,X.val,binv,fillL,setR,↓reduceIte,Nat.reduceEqDiff,Nat.reduceAdd,Nat.reduceMul,Nat.reduceLeDiff,Nat.reduceLT,Nat.reduceSub,reduceCtorEq,zGq, f0, f3, f4, g1, gB, q1, Nat.mul_one])
    refine app_rw (news := qcells L[k]) (Rw.mk (n := 0) k13 rfl (Nat.le_refl _) (Nat.zero_le _)) (fl.le l13) (qcells_len _) (qcells_oc' _) (by simp only [maxLen]; omega) (by omega) (fun v8 C2 b8 h8 n8 w8 => ?_)
    rw [Nat.zero_add, List.nil_append] at w8
    have l2 : AHeap.le C C2 := h8.keep l13 (New.one h13)
    have new8 : New C b8 := fun y hy => (n8 y hy).elim (fun hm => by simp only [List.mem_cons, List.not_mem_nil, or_false] at hm; rw [hm]; exact h13) fun hm => l13.none hm
    obtain ⟨V8, e8, rfl, -⟩ := w8.fl
    repeat' (first | simp -implicitDefEqProofs only [zG1,zG2,zG3,zG4,zG5,zG6,zG7,eq_self,resV,rval,X.val,binv,fillL,setR,↓reduceIte,Nat.reduceEqDiff,Nat.reduceAdd,Nat.reduceMul,Nat.reduceLeDiff,Nat.reduceLT,Nat.reduceSub,reduceCtorEq,zGq, f0, f3, f4, g1])
    refine rows_intro (fun x20 h20 => ?_)
    have l20 := (AHeap.le.refl C2).fresh h20 ⟨[.slice V8 L[k].length e8], true, 29, 1⟩
    have fl20 : Fl (C2.set x20 ⟨[.slice V8 L[k].length e8], true, 29, 1⟩) (some ⟨x20, 0, none⟩) [.slice V8 L[k].length e8] := Fl.blk _ _ _ _ fun _ _ h => h
    generalize C2.set x20 _ = C3 at l20 fl20 ⊢
    repeat' (first | simp -implicitDefEqProofs only [zG1,zG2,zG3,zG4,zG5,zG6,zG7,eq_self,resV,rval,X.val,binv,fillL,setR,↓reduceIte,Nat.reduceEqDiff,Nat.reduceAdd,Nat.reduceMul,Nat.reduceLeDiff,Nat.reduceLT,Nat.reduceSub,reduceCtorEq,zGq, f0, f3, f4, g1])
    have L3 := hle.trans (l2.trans l20)
    refine (hR.trans (l2.trans l20)).app (w8.trans l20) (fun y hy hm => hne y hm (new8 y hy)) rfl fl20 (by simp [maxLen]; omega) (by simp; omega) (fun v9 C9 b9 h9 n9 R9 => ?_)
    rw [← qmap_take hk] at R9
    repeat' (first | simp -implicitDefEqProofs only [zG1,zG2,zG3,zG4,zG5,zG6,zG7,eq_self,resV,rval,X.val,binv,fillL,setR,↓reduceIte,Nat.reduceEqDiff,Nat.reduceAdd,Nat.reduceMul,Nat.reduceLeDiff,Nat.reduceLT,Nat.reduceSub,reduceCtorEq,zGq, f0, f3, f4, g2])
    refine hN _ _ _ (.refl _) ⟨v9, b9, h9.keep L3 (fun y hy => hn' y (hss y hy)), fun y hy => ?_, R9, (by first | rfl | (simp only [put_at, ↓reduceIte, Nat.reduceEqDiff]; first | done | rfl | assumption) | simp [put_at, *]), (by first | rfl | (simp only [put_at, ↓reduceIte, Nat.reduceEqDiff]; first | done | rfl | assumption) | simp [put_at, *]), (by first | rfl | (simp only [put_at, ↓reduceIte, Nat.reduceEqDiff]; first | done | rfl | assumption) | simp [put_at, *])⟩
    rcases n9 y hy with hm | hm | hm
    · exact hn' y (hss y hm)
    · exact hle.none (new8 y hm)
    · exact L3.none hm
  · rintro fr C ⟨v, bs', hle, hn', hR', f0, f3, f4⟩ N
    have g0 : decide ((L.length : Int) < (L.length : Int)) = false := by simp
    rw [List.take_length] at hR'
    obtain ⟨bs, hss, hne, hR⟩ := hR'.tight
    repeat' (first | simp -implicitDefEqProofs only [zG1,zG2,zG3,zG4,zG5,zG6,zG7,eq_self,resV,rval,X.val,binv,fillL,setR,↓reduceIte,Nat.reduceEqDiff,Nat.reduceAdd,Nat.reduceMul,Nat.reduceLeDiff,Nat.reduceLT,Nat.reduceSub,reduceCtorEq,zGq, f0, f3, f4, g0] | ((with_reducible refine rows_intro (fun _ hb => ?_)); try simp only [set_none, ne_eq] at hb) | ((with_reducible refine new_intro (fun _ hb => ?_)); try simp only [set_none, ne_eq] at hb) | (with_reducible refine draw_same ?_) | ((with_reducible refine gd_split ?_ (fun _ => ?_) (fun _ => ?_)); exact rfl) | ((with_reducible refine td_split ?_ (fun _ => ?_) (fun _ => ?_)); exact rfl) | (with_reducible refine c_split (fun _ => ?_) (fun _ => ?_)))
    exact ret_same (h _ _ bs hle (fun y hy => hn' y (hss y hy)) hne hR)
theorem boxesNew_ok (A : Option Addr) (c : Nat) (rs : List Int) (hx : Fl H A (ints rs)) (hm : rs.length ≤ 1048576)
    (h : ∀ v C bs, AHeap.le H C → New H bs → (∀ y, y ∈ bs → C y ≠ none) → OP C 179 1 0 v (bx0 rs) bs → K v C) :
    ACalls Try.prog w0 101 [.slice A rs.length c] H K := by
  refine acalls_of_sx mix Try.func101 of101 (by simp [ir101]) ?_; rw [ir101]; (try delta qT qI qC qO qM qG)
  repeat' (first | simp -implicitDefEqProofs only [zG1,zG2,zG3,zG4,zG5,zG6,zG7,eq_self,resV,rval,X.val,binv,fillL,setR,↓reduceIte,Nat.reduceEqDiff,Nat.reduceAdd,Nat.reduceMul,Nat.reduceLeDiff,Nat.reduceLT,Nat.reduceSub,reduceCtorEq,zGq] | ((with_reducible refine rows_intro (fun _ hb => ?_)); try simp only [set_none, ne_eq] at hb) | ((with_reducible refine new_intro (fun _ hb => ?_)); try simp only [set_none, ne_eq] at hb) | (with_reducible refine draw_same ?_) | ((with_reducible refine gd_split ?_ (fun _ => ?_) (fun _ => ?_)); exact rfl) | ((with_reducible refine td_split ?_ (fun _ => ?_) (fun _ => ?_)); exact rfl) | (with_reducible refine c_split (fun _ => ?_) (fun _ => ?_)))
  refine for_rule rs.length (fun k fr C => ∃ v bs, AHeap.le H C ∧ New H bs ∧ (∀ y, y ∈ bs → C y ≠ none) ∧ OP C 179 1 0 v (bx0 (rs.take k)) bs ∧ fr 3 = v ∧ fr 6 = .slice A rs.length c ∧ fr 7 = .int .i64 rs.length ∧ fr 8 = .int .i64 k)
    ⟨_, [], .refl _, New.nil _, fun _ h => (by cases h), OP.nil_ _ _ _ _, (by first | rfl | (simp only [put_at, ↓reduceIte, Nat.reduceEqDiff]; first | done | rfl | assumption) | simp [put_at, *]), (by first | rfl | (simp only [put_at, ↓reduceIte, Nat.reduceEqDiff]; first | done | rfl | assumption) | simp [put_at, *]), (by first | rfl | (simp only [put_at, ↓reduceIte, Nat.reduceEqDiff]; first | done | rfl | assumption) | simp [put_at, *]), (by first | rfl | (simp only [put_at, ↓reduceIte, Nat.reduceEqDiff]; first | done | rfl | assumption) | simp [put_at, *])⟩ ?_ ?_
  · rintro k fr C hk ⟨v, bs, hle, hn', hne, hO, f3, f6, f7, f8⟩ N hN
    obtain ⟨V1, e1, rfl⟩ := hO.slice
    have g0 := lt_dec hk
    have g1 := rng hk
    have g2 := up1 hk (by omega)
    have gA := hx.ints_is hk
    have q1 := (hx.le hle).int hk
    have hbl : (bx0 (rs.take k)).length = k := by rw [bx0_len, List.length_take]; omega
    repeat' (first | simp -implicitDefEqProofs only [zG1,zG2,zG3,zG4,zG5,zG6,zG7,eq_self,resV,rval,X.val,binv,fillL,setR,↓reduceIte,Nat.reduceEqDiff,Nat.reduceAdd,Nat.reduceMul,Nat.reduceLeDiff,Nat.reduceLT,Nat.reduceSub,reduceCtorEq,zGq, f3, f6, f7, f8, g0, g1, gA, q1, Nat.mul_one])
    refine rows_intro (fun x20 h20 => ?_)
    have l20 := (AHeap.le.refl C).fresh h20 ⟨[.int .i64 rs[k], .slice none 0 0], true, 179, 2⟩
    have fl20 : Fl (C.set x20 ⟨[.int .i64 rs[k], .slice none 0 0], true, 179, 2⟩) (some ⟨x20, 0, none⟩) [.int .i64 rs[k], .slice none 0 0] := Fl.blk _ _ _ _ fun _ _ h => h
    generalize C.set x20 _ = C3 at l20 fl20 ⊢
    repeat' (first | simp -implicitDefEqProofs only [zG1,zG2,zG3,zG4,zG5,zG6,zG7,eq_self,resV,rval,X.val,binv,fillL,setR,↓reduceIte,Nat.reduceEqDiff,Nat.reduceAdd,Nat.reduceMul,Nat.reduceLeDiff,Nat.reduceLT,Nat.reduceSub,reduceCtorEq,zGq, f3, f6, f7, f8])
    have L3 := hle.trans l20
    refine (hO.trans l20).app w0 (x := .slice none 0 0) (ib := []) (xs := []) (p := rs[k]) (fun y hy => le_kept l20 (hne y hy)) (.inl ⟨rfl, rfl, rfl, rfl⟩) (fun y hy => by cases hy) rfl rfl (by simp [ocI, ocS]) rfl rfl (by decide) (by decide) fl20 (by simp only [maxLen]; omega) (by omega) (fun v9 C9 b9 h9 n9 kb9 O9 => ?_)
    rw [← bx0_take hk] at O9
    repeat' (first | simp -implicitDefEqProofs only [zG1,zG2,zG3,zG4,zG5,zG6,zG7,eq_self,resV,rval,X.val,binv,fillL,setR,↓reduceIte,Nat.reduceEqDiff,Nat.reduceAdd,Nat.reduceMul,Nat.reduceLeDiff,Nat.reduceLT,Nat.reduceSub,reduceCtorEq,zGq, f3, f6, f7, f8, g2])
    refine hN _ _ _ (.refl _) ⟨v9, b9, h9.keep L3 hn', fun y hy => ?_, kb9, O9, (by first | rfl | (simp only [put_at, ↓reduceIte, Nat.reduceEqDiff]; first | done | rfl | assumption) | simp [put_at, *]), (by first | rfl | (simp only [put_at, ↓reduceIte, Nat.reduceEqDiff]; first | done | rfl | assumption) | simp [put_at, *]), (by first | rfl | (simp only [put_at, ↓reduceIte, Nat.reduceEqDiff]; first | done | rfl | assumption) | simp [put_at, *]), (by first | rfl | (simp only [put_at, ↓reduceIte, Nat.reduceEqDiff]; first | done | rfl | assumption) | simp [put_at, *])⟩
    rcases n9 y hy with hm | hm | hm
    · exact hn' y hm
    · cases hm
    · exact L3.none hm
  · rintro fr C ⟨v, bs, hle, hn', hne, hO, f3, f6, f7, f8⟩ N
    have g0 : decide ((rs.length : Int) < (rs.length : Int)) = false := by simp
    rw [List.take_length] at hO
    repeat' (first | simp -implicitDefEqProofs only [zG1,zG2,zG3,zG4,zG5,zG6,zG7,eq_self,resV,rval,X.val,binv,fillL,setR,↓reduceIte,Nat.reduceEqDiff,Nat.reduceAdd,Nat.reduceMul,Nat.reduceLeDiff,Nat.reduceLT,Nat.reduceSub,reduceCtorEq,zGq, f3, f6, f7, f8, g0] | ((with_reducible refine rows_intro (fun _ hb => ?_)); try simp only [set_none, ne_eq] at hb) | ((with_reducible refine new_intro (fun _ hb => ?_)); try simp only [set_none, ne_eq] at hb) | (with_reducible refine draw_same ?_) | ((with_reducible refine gd_split ?_ (fun _ => ?_) (fun _ => ?_)); exact rfl) | ((with_reducible refine td_split ?_ (fun _ => ?_) (fun _ => ?_)); exact rfl) | (with_reducible refine c_split (fun _ => ?_) (fun _ => ?_)))
    exact ret_same (h _ _ bs hle hn' hne hO)
theorem l16Empty_ok (A : Option Addr) (c : Nat) (rs : List Int) (hx : Fl H A (ints rs)) (hm : rs.length ≤ 1048576)
    (h : ∀ v C bs, AHeap.le H C → New H bs → (∀ y, y ∈ bs → C y ≠ none) → OP C 179 1 0 v (bx0 rs) bs → K v C) :
    ACalls Try.prog w0 99 [.slice A rs.length c] H K := by
  refine acalls_of_sx mix Try.func99 of99 (by simp [ir99]) ?_; rw [ir99]; (try delta qT qI qC qO qM qG)
  repeat' (first | simp -implicitDefEqProofs only [zG1,zG2,zG3,zG4,zG5,zG6,zG7,eq_self,resV,rval,X.val,binv,fillL,setR,↓reduceIte,Nat.reduceEqDiff,Nat.reduceAdd,Nat.reduceMul,Nat.reduceLeDiff,Nat.reduceLT,Nat.reduceSub,reduceCtorEq,zGq] | ((with_reducible refine rows_intro (fun _ hb => ?_)); try simp only [set_none, ne_eq] at hb) | ((with_reducible refine new_intro (fun _ hb => ?_)); try simp only [set_none, ne_eq] at hb) | (with_reducible refine draw_same ?_) | ((with_reducible refine gd_split ?_ (fun _ => ?_) (fun _ => ?_)); exact rfl) | ((with_reducible refine td_split ?_ (fun _ => ?_) (fun _ => ?_)); exact rfl) | (with_reducible refine c_split (fun _ => ?_) (fun _ => ?_)))
  rename_i x5
  have h5 : H x5 = none := by assumption
  have l5 := (AHeap.le.refl H).fresh h5 ⟨[], true, 179, 0⟩
  have k5 := Kn.same H x5 ⟨[], true, 179, 0⟩
  generalize H.set x5 _ = C0 at l5 k5 ⊢
  refine for_rule rs.length (fun k fr C => ∃ v bs, AHeap.le H C ∧ New H bs ∧ (∀ y, y ∈ bs → C y ≠ none) ∧ OP C 179 1 0 v (bx0 (rs.take k)) bs ∧ fr 0 = .slice A rs.length c ∧ fr 3 = v ∧ fr 4 = .int .i64 k)
    ⟨_, [x5], l5, New.one h5, fun y hy => (by simp only [List.mem_cons, List.not_mem_nil, or_false] at hy; subst hy; exact k5.ne), OP.empty (Rw.mk k5 rfl (Nat.le_refl _) (Nat.zero_le _)) _ _, (by first | rfl | (simp only [put_at, ↓reduceIte, Nat.reduceEqDiff]; first | done | rfl | assumption) | simp [put_at, *]), (by first | rfl | (simp only [put_at, ↓reduceIte, Nat.reduceEqDiff]; first | done | rfl | assumption) | simp [put_at, *]), (by first | rfl | (simp only [put_at, ↓reduceIte, Nat.reduceEqDiff]; first | done | rfl | assumption) | simp [put_at, *])⟩ ?_ ?_
  · rintro k fr C hk ⟨v, bs, hle, hn', hne, hO, f0, f3, f4⟩ N hN
    obtain ⟨V1, e1, rfl⟩ := hO.slice
    have g0 := lt_dec hk
    have g1 := rng hk
    have g2 := up1 hk (by omega)
    have gA := hx.ints_is hk
    have q1 := (hx.le hle).int hk
    have hbl : (bx0 (rs.take k)).length = k := by rw [bx0_len, List.length_take]; omega
    repeat' (first | simp -implicitDefEqProofs only [zG1,zG2,zG3,zG4,zG5,zG6,zG7,eq_self,resV,rval,X.val,binv,fillL,setR,↓reduceIte,Nat.reduceEqDiff,Nat.reduceAdd,Nat.reduceMul,Nat.reduceLeDiff,Nat.reduceLT,Nat.reduceSub,reduceCtorEq,zGq, f0, f3, f4, g0, g1, gA, q1, Nat.mul_one])
    refine rows_intro (fun x17 h17 => ?_)
    have l17 := (AHeap.le.refl C).fresh h17 ⟨[], true, 3, 0⟩
    have k17 := Kn.same C x17 ⟨[], true, 3, 0⟩
    change putK _ _ _ _ (C.set x17 ⟨[], true, 3, 0⟩)
    generalize C.set x17 _ = C1 at l17 k17 ⊢
    repeat' (first | simp -implicitDefEqProofs only [zG1,zG2,zG3,zG4,zG5,zG6,zG7,eq_self,resV,rval,X.val,binv,fillL,setR,↓reduceIte,Nat.reduceEqDiff,Nat.reduceAdd,Nat.reduceMul,Nat.reduceLeDiff,Nat.reduceLT,Nat.reduceSub,reduceCtorEq,zGq, f0, f3, f4])
    refine rows_intro (fun x20 h20 => ?_)
    have l20 := (AHeap.le.refl C1).fresh h20 ⟨[.int .i64 rs[k], .slice (some ⟨x17, 0, none⟩) 0 0], true, 179, 2⟩
    have fl20 : Fl (C1.set x20 ⟨[.int .i64 rs[k], .slice (some ⟨x17, 0, none⟩) 0 0], true, 179, 2⟩) (some ⟨x20, 0, none⟩) [.int .i64 rs[k], .slice (some ⟨x17, 0, none⟩) 0 0] := Fl.blk _ _ _ _ fun _ _ h => h
    generalize C1.set x20 _ = C3 at l20 fl20 ⊢
    repeat' (first | simp -implicitDefEqProofs only [zG1,zG2,zG3,zG4,zG5,zG6,zG7,eq_self,resV,rval,X.val,binv,fillL,setR,↓reduceIte,Nat.reduceEqDiff,Nat.reduceAdd,Nat.reduceMul,Nat.reduceLeDiff,Nat.reduceLT,Nat.reduceSub,reduceCtorEq,zGq, f0, f3, f4])
    have L3 := hle.trans (l17.trans l20)
    refine (hO.trans (l17.trans l20)).app w0 (x := .slice (some ⟨x17, 0, none⟩) 0 0) (ib := [x17]) (xs := []) (p := rs[k]) (fun y hy => le_kept (l17.trans l20) (hne y hy)) (Rw.mk (n := 0) (k17.trans l20) rfl (Nat.le_refl _) (Nat.zero_le _)) (fun y hy hm => by simp only [List.mem_cons, List.not_mem_nil, or_false] at hy; subst hy; exact hne _ hm h17) rfl rfl (by simp [ocI, ocS]) rfl rfl (by decide) (by decide) fl20 (by simp only [maxLen]; omega) (by omega) (fun v9 C9 b9 h9 n9 kb9 O9 => ?_)
    rw [← bx0_take hk] at O9
    repeat' (first | simp -implicitDefEqProofs only [zG1,zG2,zG3,zG4,zG5,zG6,zG7,eq_self,resV,rval,X.val,binv,fillL,setR,↓reduceIte,Nat.reduceEqDiff,Nat.reduceAdd,Nat.reduceMul,Nat.reduceLeDiff,Nat.reduceLT,Nat.reduceSub,reduceCtorEq,zGq, f0, f3, f4, g2])
    refine hN _ _ _ (.refl _) ⟨v9, b9, h9.keep L3 hn', fun y hy => ?_, kb9, O9, (by first | rfl | (simp only [put_at, ↓reduceIte, Nat.reduceEqDiff]; first | done | rfl | assumption) | simp [put_at, *]), (by first | rfl | (simp only [put_at, ↓reduceIte, Nat.reduceEqDiff]; first | done | rfl | assumption) | simp [put_at, *]), (by first | rfl | (simp only [put_at, ↓reduceIte, Nat.reduceEqDiff]; first | done | rfl | assumption) | simp [put_at, *])⟩
    rcases n9 y hy with hm | hm | hm
    · exact hn' y hm
    · simp only [List.mem_cons, List.not_mem_nil, or_false] at hm; subst hm; exact hle.none h17
    · exact L3.none hm
  · rintro fr C ⟨v, bs, hle, hn', hne, hO, f0, f3, f4⟩ N
    have g0 : decide ((rs.length : Int) < (rs.length : Int)) = false := by simp
    rw [List.take_length] at hO
    repeat' (first | simp -implicitDefEqProofs only [zG1,zG2,zG3,zG4,zG5,zG6,zG7,eq_self,resV,rval,X.val,binv,fillL,setR,↓reduceIte,Nat.reduceEqDiff,Nat.reduceAdd,Nat.reduceMul,Nat.reduceLeDiff,Nat.reduceLT,Nat.reduceSub,reduceCtorEq,zGq, f0, f3, f4, g0] | ((with_reducible refine rows_intro (fun _ hb => ?_)); try simp only [set_none, ne_eq] at hb) | ((with_reducible refine new_intro (fun _ hb => ?_)); try simp only [set_none, ne_eq] at hb) | (with_reducible refine draw_same ?_) | ((with_reducible refine gd_split ?_ (fun _ => ?_) (fun _ => ?_)); exact rfl) | ((with_reducible refine td_split ?_ (fun _ => ?_) (fun _ => ?_)); exact rfl) | (with_reducible refine c_split (fun _ => ?_) (fun _ => ?_)))
    exact ret_same (h _ _ bs hle hn' hne hO)
end
end Go.Proofs.Ytfjhjfddgdokgaa
namespace Go.Proofs.Ytfjhjfddgdokgaa
set_option linter.all false
open Go Go.RowKit
set_option maxRecDepth 100000
variable (w0 : World)
theorem crewValidS_ok (H : AHeap) (K : Value → AHeap → Prop) (c : Cr) (A0 : Option Addr) (c0 : Nat) (A1 : Option Addr) (c1 : Nat) (A2 : Option Addr) (c2 : Nat) (A5 : Option Addr) (c5 : Nat) (hc : CrR H c A0 A1 A2 A5) (hb : CrB 1048576 c) (h : K (.bool (crewOk c)) H) :
    ACalls Try.prog w0 33 [crv c A0 c0 A1 c1 A2 c2 A5 c5] H K := by
  have nc := hb.n0
  have nt := hb.n1
  have nb := hb.n2
  have n5 := hb.n5
  have w1 : IntKind.i64.wrap ((c.threads.length : Int) - 1) = (c.threads.length : Int) - 1 := wrap_i64 (by omega) (by omega)
  refine acalls_of_sx mix Try.func33 of33 (by simp [ir33]) ?_; rw [ir33]; (try delta qT qI qC qO qM qG)
  repeat' (first | simp -implicitDefEqProofs only [zG1,zG2,zG3,zG4,zG5,zG6,zG7,eq_self,resV,rval,X.val,binv,fillL,setR,↓reduceIte,Nat.reduceEqDiff,Nat.reduceAdd,Nat.reduceMul,Nat.reduceLeDiff,Nat.reduceLT,Nat.reduceSub,reduceCtorEq,zGq])
  refine new_intro (fun x1 hx1 => ?_)
  have l1 := (AHeap.le.refl H).fresh hx1 ⟨crc c A0 c0 A1 c1 A2 c2 A5 c5, true, 62, 6⟩
  have k1 := Kn.same H x1 ⟨crc c A0 c0 A1 c1 A2 c2 A5 c5, true, 62, 6⟩
  generalize H.set x1 _ = C at l1 k1 ⊢
  have q := kn6 k1
  have hc' := hc.le l1
  cases e1 : (decide ((1 : Int) ≤ c.threads.length) && decide ((c.threads.length : Int) ≤ 3)) with
  | false =>
    have hF : crewPre c = false := by
      by_cases hl : c.threads.length = c.codes.length
      · simp only [crewPre, turnsOk, ← hl]; simp only [e1, Bool.false_and]
      · simp only [crewPre, decide_eq_false hl, Bool.and_false, Bool.false_and]
    rw [crewOk_pre hF] at h
    repeat' (first | simp -implicitDefEqProofs only [zG1,zG2,zG3,zG4,zG5,zG6,zG7,eq_self,resV,rval,X.val,binv,fillL,setR,↓reduceIte,Nat.reduceEqDiff,Nat.reduceAdd,Nat.reduceMul,Nat.reduceLeDiff,Nat.reduceLT,Nat.reduceSub,reduceCtorEq,zGq, q, w1, e1] | (with_reducible refine l6In_ok _ _ _ _ _ _ ?_) | (with_reducible refine l15Boxes_ok _ _ _ A2 c2 _ hc'.f2 hb.n2 hb.m2 ?_))
    exact ⟨H, l1, h⟩
  | true =>
  by_cases hl : c.threads.length = c.codes.length
  case neg =>
    have e2 : ((c.codes.length : Int) != (c.threads.length : Int)) = true := by simp; omega
    rw [crewOk_pre (by simp only [crewPre, decide_eq_false hl, Bool.and_false, Bool.false_and])] at h
    repeat' (first | simp -implicitDefEqProofs only [zG1,zG2,zG3,zG4,zG5,zG6,zG7,eq_self,resV,rval,X.val,binv,fillL,setR,↓reduceIte,Nat.reduceEqDiff,Nat.reduceAdd,Nat.reduceMul,Nat.reduceLeDiff,Nat.reduceLT,Nat.reduceSub,reduceCtorEq,zGq, q, w1, e1, e2] | (with_reducible refine l6In_ok _ _ _ _ _ _ ?_) | (with_reducible refine l15Boxes_ok _ _ _ A2 c2 _ hc'.f2 hb.n2 hb.m2 ?_))
    exact ⟨H, l1, h⟩
  case pos =>
  have e2 : ((c.codes.length : Int) != (c.threads.length : Int)) = false := by simp; omega
  cases e3 : boxesOk c.boxes with
  | false =>
    rw [crewOk_pre (by rw [crewPre, e3, Bool.and_false])] at h
    repeat' (first | simp -implicitDefEqProofs only [zG1,zG2,zG3,zG4,zG5,zG6,zG7,eq_self,resV,rval,X.val,binv,fillL,setR,↓reduceIte,Nat.reduceEqDiff,Nat.reduceAdd,Nat.reduceMul,Nat.reduceLeDiff,Nat.reduceLT,Nat.reduceSub,reduceCtorEq,zGq, q, w1, e1, e2, e3] | (with_reducible refine l6In_ok _ _ _ _ _ _ ?_) | (with_reducible refine l15Boxes_ok _ _ _ A2 c2 _ hc'.f2 hb.n2 hb.m2 ?_))
    exact ⟨H, l1, h⟩
  | true =>
  cases e4 : (decide ((0 : Int) ≤ c.turn) && decide (c.turn ≤ (c.threads.length : Int) - 1)) with
  | false =>
    have hF : turnsOk c.codes.length c.turn c.last c.log = false := by
      cases hT : turnsOk c.codes.length c.turn c.last c.log with
      | false => rfl
      | true =>
        simp only [turnsOk, Bool.and_eq_true, decide_eq_true_eq] at hT
        simp only [Bool.and_eq_false_iff, decide_eq_false_iff_not] at e4
        rcases e4 with e4 | e4 <;> omega
    rw [crewOk_pre (by rw [crewPre, hF]; rfl)] at h
    repeat' (first | simp -implicitDefEqProofs only [zG1,zG2,zG3,zG4,zG5,zG6,zG7,eq_self,resV,rval,X.val,binv,fillL,setR,↓reduceIte,Nat.reduceEqDiff,Nat.reduceAdd,Nat.reduceMul,Nat.reduceLeDiff,Nat.reduceLT,Nat.reduceSub,reduceCtorEq,zGq, q, w1, e1, e2, e3, e4] | (with_reducible refine l6In_ok _ _ _ _ _ _ ?_) | (with_reducible refine l15Boxes_ok _ _ _ A2 c2 _ hc'.f2 hb.n2 hb.m2 ?_))
    exact ⟨H, l1, h⟩
  | true =>
  cases e5 : (decide ((0 : Int) ≤ c.last) && decide (c.last ≤ (c.threads.length : Int))) with
  | false =>
    have hF : turnsOk c.codes.length c.turn c.last c.log = false := by
      cases hT : turnsOk c.codes.length c.turn c.last c.log with
      | false => rfl
      | true =>
        simp only [turnsOk, Bool.and_eq_true, decide_eq_true_eq] at hT
        simp only [Bool.and_eq_false_iff, decide_eq_false_iff_not] at e5
        rcases e5 with e5 | e5 <;> omega
    rw [crewOk_pre (by rw [crewPre, hF]; rfl)] at h
    repeat' (first | simp -implicitDefEqProofs only [zG1,zG2,zG3,zG4,zG5,zG6,zG7,eq_self,resV,rval,X.val,binv,fillL,setR,↓reduceIte,Nat.reduceEqDiff,Nat.reduceAdd,Nat.reduceMul,Nat.reduceLeDiff,Nat.reduceLT,Nat.reduceSub,reduceCtorEq,zGq, q, w1, e1, e2, e3, e4, e5] | (with_reducible refine l6In_ok _ _ _ _ _ _ ?_) | (with_reducible refine l15Boxes_ok _ _ _ A2 c2 _ hc'.f2 hb.n2 hb.m2 ?_))
    exact ⟨H, l1, h⟩
  | true =>
  have hT : turnsOk c.codes.length c.turn c.last c.log = words c.log := by
    simp only [Bool.and_eq_true, decide_eq_true_eq] at e1 e4 e5
    rw [turnsOk, decide_eq_true (by omega), decide_eq_true (by omega), decide_eq_true (by omega), decide_eq_true (by omega), decide_eq_true (by omega), decide_eq_true (by omega)]
    rfl
  repeat' (first | simp -implicitDefEqProofs only [zG1,zG2,zG3,zG4,zG5,zG6,zG7,eq_self,resV,rval,X.val,binv,fillL,setR,↓reduceIte,Nat.reduceEqDiff,Nat.reduceAdd,Nat.reduceMul,Nat.reduceLeDiff,Nat.reduceLT,Nat.reduceSub,reduceCtorEq,zGq, q, w1, e1, e2, e3, e4, e5] | (with_reducible refine l6In_ok _ _ _ _ _ _ ?_) | (with_reducible refine l15Boxes_ok _ _ _ A2 c2 _ hc'.f2 hb.n2 hb.m2 ?_))
  refine for_rule c.threads.length (fun k fr D => D = C ∧ (∀ i (h1 : i < c.threads.length) (h2 : i < c.codes.length), i < k → (threadValid c.threads[i].1 c.threads[i].2 c.codes[i] && codeThere c.codes[i] c.boxes.length) = true) ∧ fr 1 = .pointer (some ⟨x1, 0, none⟩) ∧ fr 3 = .int .i64 c.threads.length ∧ fr 4 = .int .i64 k)
    ⟨rfl, fun i _ _ hi => absurd hi (Nat.not_lt_zero _), (by first | rfl | (simp only [put_at, ↓reduceIte, Nat.reduceEqDiff]; first | done | rfl | assumption) | simp [put_at, *]), (by first | rfl | (simp only [put_at, ↓reduceIte, Nat.reduceEqDiff]; first | done | rfl | assumption) | simp [put_at, *]), (by first | rfl | (simp only [put_at, ↓reduceIte, Nat.reduceEqDiff]; first | done | rfl | assumption) | simp [put_at, *])⟩ ?_ ?_
  · rintro k fr D hk' ⟨rfl, hw, f1, f3, f4⟩ N hN
    have g0 := lt_dec hk'
    have g1 := rng hk'
    have g2 := up1 hk' (by omega)
    have hk : k < c.codes.length := by omega
    have g0' := lt_dec hk
    have g1' := rng hk
    obtain ⟨q1, A', c', q2, fl⟩ := hc'.f0 k hk
    obtain ⟨p1, B', d', p2, p3, fm⟩ := hc'.f1 k hk'
    rw [Nat.add_zero] at p2
    have hq := hb.m0 _ (List.getElem_mem hk)
    have hx := hb.m1 _ (List.getElem_mem hk')
    cases hv : threadValid c.threads[k].1 c.threads[k].2 c.codes[k] with
    | false =>
      rw [crewOk_bad hk' hk (by rw [hv]; rfl)] at h
      repeat' (first | simp -implicitDefEqProofs only [zG1,zG2,zG3,zG4,zG5,zG6,zG7,eq_self,resV,rval,X.val,binv,fillL,setR,↓reduceIte,Nat.reduceEqDiff,Nat.reduceAdd,Nat.reduceMul,Nat.reduceLeDiff,Nat.reduceLT,Nat.reduceSub,reduceCtorEq,zGq, q, f1, f3, f4, g0, g1, g0', g1', q1, q2, p1, p2, p3, hv, Nat.mul_one] | ((with_reducible refine rows_intro (fun _ hb => ?_)); try simp only [set_none, ne_eq] at hb) | ((with_reducible refine new_intro (fun _ hb => ?_)); try simp only [set_none, ne_eq] at hb) | (with_reducible refine draw_same ?_) | ((with_reducible refine gd_split ?_ (fun _ => ?_) (fun _ => ?_)); exact rfl) | ((with_reducible refine td_split ?_ (fun _ => ?_) (fun _ => ?_)); exact rfl) | (with_reducible refine c_split (fun _ => ?_) (fun _ => ?_)) | (with_reducible refine threadValidS_ok _ _ _ B' d' _ _ fm hx A' c' _ fl hq ?_))
      exact ⟨H, l1, h⟩
    | true =>
      cases hr : codeThere c.codes[k] c.boxes.length with
      | false =>
        rw [crewOk_bad hk' hk (by rw [hr, Bool.and_false])] at h
        repeat' (first | simp -implicitDefEqProofs only [zG1,zG2,zG3,zG4,zG5,zG6,zG7,eq_self,resV,rval,X.val,binv,fillL,setR,↓reduceIte,Nat.reduceEqDiff,Nat.reduceAdd,Nat.reduceMul,Nat.reduceLeDiff,Nat.reduceLT,Nat.reduceSub,reduceCtorEq,zGq, q, f1, f3, f4, g0, g1, g0', g1', q1, q2, p1, p2, p3, hv, hr, Nat.mul_one] | ((with_reducible refine rows_intro (fun _ hb => ?_)); try simp only [set_none, ne_eq] at hb) | ((with_reducible refine new_intro (fun _ hb => ?_)); try simp only [set_none, ne_eq] at hb) | (with_reducible refine draw_same ?_) | ((with_reducible refine gd_split ?_ (fun _ => ?_) (fun _ => ?_)); exact rfl) | ((with_reducible refine td_split ?_ (fun _ => ?_) (fun _ => ?_)); exact rfl) | (with_reducible refine c_split (fun _ => ?_) (fun _ => ?_)) | (with_reducible refine threadValidS_ok _ _ _ B' d' _ _ fm hx A' c' _ fl hq ?_) | (with_reducible refine l24Code_ok _ _ _ A' c' _ _ fl hq ?_))
        exact ⟨H, l1, h⟩
      | true =>
        repeat' (first | simp -implicitDefEqProofs only [zG1,zG2,zG3,zG4,zG5,zG6,zG7,eq_self,resV,rval,X.val,binv,fillL,setR,↓reduceIte,Nat.reduceEqDiff,Nat.reduceAdd,Nat.reduceMul,Nat.reduceLeDiff,Nat.reduceLT,Nat.reduceSub,reduceCtorEq,zGq, q, f1, f3, f4, g0, g1, g2, g0', g1', q1, q2, p1, p2, p3, hv, hr, Nat.mul_one] | ((with_reducible refine rows_intro (fun _ hb => ?_)); try simp only [set_none, ne_eq] at hb) | ((with_reducible refine new_intro (fun _ hb => ?_)); try simp only [set_none, ne_eq] at hb) | (with_reducible refine draw_same ?_) | ((with_reducible refine gd_split ?_ (fun _ => ?_) (fun _ => ?_)); exact rfl) | ((with_reducible refine td_split ?_ (fun _ => ?_) (fun _ => ?_)); exact rfl) | (with_reducible refine c_split (fun _ => ?_) (fun _ => ?_)) | (with_reducible refine threadValidS_ok _ _ _ B' d' _ _ fm hx A' c' _ fl hq ?_) | (with_reducible refine l24Code_ok _ _ _ A' c' _ _ fl hq ?_))
        refine hN _ _ _ (.refl _) ⟨rfl, fun i h1 h2 hik => ?_, (by first | rfl | (simp only [put_at, ↓reduceIte, Nat.reduceEqDiff]; first | done | rfl | assumption) | simp [put_at, *]), (by first | rfl | (simp only [put_at, ↓reduceIte, Nat.reduceEqDiff]; first | done | rfl | assumption) | simp [put_at, *]), (by first | rfl | (simp only [put_at, ↓reduceIte, Nat.reduceEqDiff]; first | done | rfl | assumption) | simp [put_at, *])⟩
        rcases Nat.lt_succ_iff_lt_or_eq.1 hik with hik | rfl
        · exact hw i h1 h2 hik
        · rw [hv, hr]; rfl
  · rintro fr D ⟨rfl, hw, f1, f3, f4⟩ N
    have g0 : decide ((c.threads.length : Int) < (c.threads.length : Int)) = false := by simp
    repeat' (first | simp -implicitDefEqProofs only [zG1,zG2,zG3,zG4,zG5,zG6,zG7,eq_self,resV,rval,X.val,binv,fillL,setR,↓reduceIte,Nat.reduceEqDiff,Nat.reduceAdd,Nat.reduceMul,Nat.reduceLeDiff,Nat.reduceLT,Nat.reduceSub,reduceCtorEq,zGq, q, f1, f3, f4, g0] | ((with_reducible refine rows_intro (fun _ hb => ?_)); try simp only [set_none, ne_eq] at hb) | ((with_reducible refine new_intro (fun _ hb => ?_)); try simp only [set_none, ne_eq] at hb) | (with_reducible refine draw_same ?_) | ((with_reducible refine gd_split ?_ (fun _ => ?_) (fun _ => ?_)); exact rfl) | ((with_reducible refine td_split ?_ (fun _ => ?_) (fun _ => ?_)); exact rfl) | (with_reducible refine c_split (fun _ => ?_) (fun _ => ?_)) | (with_reducible refine l4WordsL_ok _ _ _ A5 c5 _ hc'.f5 n5 ?_))
    cases hW : words c.log with
    | false =>
      rw [crewOk_pre (by rw [crewPre, hT, hW]; rfl)] at h
      exact ⟨H, l1, h⟩
    | true =>
      rw [crewOk_good (by rw [crewPre, hT, hW, e3, decide_eq_true hl]; rfl) fun i h1 h2 => hw i h1 h2 h1] at h
      exact ⟨H, l1, h⟩
end Go.Proofs.Ytfjhjfddgdokgaa
namespace Go.Proofs.Ytfjhjfddgdokgaa
set_option linter.all false
open Go Go.RowKit
inductive Ex where
  | mk (op n : Int) (args : List Ex)
def Ex.op : Ex → Int | .mk o _ _ => o
def Ex.n : Ex → Int | .mk _ n _ => n
def Ex.args : Ex → List Ex | .mk _ _ a => a
mutual
/-- The cells of an expression, and what its slice leads to. -/
def ExV (H : AHeap) : Ex → List Value → Prop
  | .mk op n args, cs => ∃ A c, cs = [.int .i64 op, .int .i64 n, .slice A args.length c] ∧ args.length ≤ maxLen ∧ ExR H args A 0
def ExR (H : AHeap) : List Ex → Option Addr → Nat → Prop
  | [], _, _ => True
  | e :: es, A, i => (∃ v0 v1 v2, H.cell (adr A (i * 3)) = some v0 ∧ H.cell (adr A (i * 3 + 1)) = some v1 ∧ H.cell (adr A (i * 3 + 2)) = some v2 ∧ ExV H e [v0, v1, v2]) ∧ ExR H es A (i + 1)
end
/-- How many expressions lie below. -/
def Ex.cnt : Ex → Nat
  | .mk _ _ args => cntL args
where cntL : List Ex → Nat
  | [] => 0
  | e :: es => 1 + e.cnt + cntL es
mutual
theorem ExV.le {H H' : AHeap} (hl : AHeap.le H H') : ∀ {e : Ex} {cs : List Value}, ExV H e cs → ExV H' e cs
  | .mk op n args, cs, h => by
    simp only [ExV] at h ⊢
    obtain ⟨A, c, h1, h2, h3⟩ := h
    exact ⟨A, c, h1, h2, ExR.le hl h3⟩
theorem ExR.le {H H' : AHeap} (hl : AHeap.le H H') : ∀ {es : List Ex} {A : Option Addr} {i : Nat}, ExR H es A i → ExR H' es A i
  | [], _, _, _ => by simp only [ExR]
  | e :: es, A, i, h => by
    simp only [ExR] at h ⊢
    obtain ⟨⟨v0, v1, v2, h0, h1, h2, h3⟩, h4⟩ := h
    exact ⟨⟨v0, v1, v2, hl.cell h0, hl.cell h1, hl.cell h2, ExV.le hl h3⟩, ExR.le hl h4⟩
end
theorem ExR.at_ {H : AHeap} : ∀ {es : List Ex} {A : Option Addr} {i k : Nat}, ExR H es A i → (hk : k < es.length) → ∃ v0 v1 v2, H.cell (adr A ((i + k) * 3)) = some v0 ∧ H.cell (adr A ((i + k) * 3 + 1)) = some v1 ∧ H.cell (adr A ((i + k) * 3 + 2)) = some v2 ∧ ExV H es[k] [v0, v1, v2]
  | e :: es, A, i, 0, h, _ => by simp only [ExR] at h; exact h.1
  | e :: es, A, i, k + 1, h, hk => by
    simp only [ExR] at h
    have := ExR.at_ (k := k) h.2 (by simpa using hk)
    rw [show i + 1 + k = i + (k + 1) by omega] at this
    exact this
theorem ExV.open_ {H : AHeap} {e : Ex} {cs : List Value} (h : ExV H e cs) : ∃ a c, cs = [.int .i64 e.op, .int .i64 e.n, .slice a e.args.length c] ∧ e.args.length ≤ maxLen ∧ ExR H e.args a 0 := by
  cases e with
  | mk op n args => simpa only [ExV, Ex.op, Ex.n, Ex.args] using h
/-- The depth, and the code, of an expression of two arguments at most. -/
def Ex.depth : Ex → Nat
  | .mk _ _ args => depthL args + 1
where depthL : List Ex → Nat
  | [] => 0
  | e :: es => max e.depth (depthL es)
end Go.Proofs.Ytfjhjfddgdokgaa
namespace Go.Proofs.Ytfjhjfddgdokgaa
set_option linter.all false
open Go Go.RowKit
inductive St where
  | mk (kind var box : Int) (e : Ex) (body els : List St)
def St.kind : St → Int | .mk k _ _ _ _ _ => k
def St.var : St → Int | .mk _ v _ _ _ _ => v
def St.box : St → Int | .mk _ _ b _ _ _ => b
def St.e : St → Ex | .mk _ _ _ e _ _ => e
def St.body : St → List St | .mk _ _ _ _ b _ => b
def St.els : St → List St | .mk _ _ _ _ _ l => l
/-- The eight cells of a statement. -/
abbrev stc (k v b : Int) (e : Ex) (n1 n2 : Nat) (A0 : Option Addr) (c0 : Nat) (A1 : Option Addr) (c1 : Nat) (A2 : Option Addr) (c2 : Nat) : List Value :=
  [.int .i64 k, .int .i64 v, .int .i64 b, .int .i64 e.op, .int .i64 e.n, .slice A0 e.args.length c0, .slice A1 n1 c1, .slice A2 n2 c2]
mutual
/-- The cells of a statement, and what its slices lead to. -/
def StV (H : AHeap) : St → List Value → Prop
  | .mk k v b e body els, cs => ∃ A0 c0 A1 c1 A2 c2, cs = stc k v b e body.length els.length A0 c0 A1 c1 A2 c2 ∧
      e.args.length ≤ maxLen ∧ ExR H e.args A0 0 ∧ (body.length ≤ maxLen ∧ StR H body A1 0) ∧ (els.length ≤ maxLen ∧ StR H els A2 0)
def StR (H : AHeap) : List St → Option Addr → Nat → Prop
  | [], _, _ => True
  | s :: ss, A, i => (∃ cs, (∀ j, j < 8 → H.cell (adr A (i * 8 + j)) = cs[j]?) ∧ StV H s cs) ∧ StR H ss A (i + 1)
end
mutual
theorem StV.le {H H' : AHeap} (hl : AHeap.le H H') : ∀ {s : St} {cs : List Value}, StV H s cs → StV H' s cs
  | .mk k v b e body els, cs, h => by
    simp only [StV] at h ⊢
    obtain ⟨A0, c0, A1, c1, A2, c2, h1, h2, h3, ⟨h4, h5⟩, h6, h7⟩ := h
    exact ⟨A0, c0, A1, c1, A2, c2, h1, h2, h3.le hl, ⟨h4, StR.le hl h5⟩, h6, StR.le hl h7⟩
theorem StR.le {H H' : AHeap} (hl : AHeap.le H H') : ∀ {ss : List St} {A : Option Addr} {i : Nat}, StR H ss A i → StR H' ss A i
  | [], _, _, _ => by simp only [StR]
  | s :: ss, A, i, h => by
    simp only [StR] at h ⊢
    obtain ⟨⟨cs, h0, h1⟩, h2⟩ := h
    refine ⟨⟨cs, fun j hj => ?_, StV.le hl h1⟩, StR.le hl h2⟩
    have h3 := h0 j hj
    have h8 : cs.length = 8 := by
      cases s with
      | mk k v b e body els =>
        simp only [StV] at h1
        obtain ⟨A0, c0, A1, c1, A2, c2, rfl, _⟩ := h1
        rfl
    rw [List.getElem?_eq_getElem (by omega)] at h3 ⊢
    exact hl.cell h3
end
theorem StV.open_ {H : AHeap} {s : St} {cs : List Value} (h : StV H s cs) : ∃ A0 c0 A1 c1 A2 c2, cs = stc s.kind s.var s.box s.e s.body.length s.els.length A0 c0 A1 c1 A2 c2 ∧
    s.e.args.length ≤ maxLen ∧ ExR H s.e.args A0 0 ∧ (s.body.length ≤ maxLen ∧ StR H s.body A1 0) ∧ (s.els.length ≤ maxLen ∧ StR H s.els A2 0) := by
  cases s with
  | mk k v b e body els => simpa only [StV, St.kind, St.var, St.box, St.e, St.body, St.els] using h
theorem StV.len {H : AHeap} {s : St} {cs : List Value} (h : StV H s cs) : cs.length = 8 := by
  obtain ⟨_, _, _, _, _, _, rfl, _⟩ := h.open_
  rfl
theorem StR.at_ {H : AHeap} : ∀ {ss : List St} {A : Option Addr} {i k : Nat}, StR H ss A i → (hk : k < ss.length) → ∃ cs, (∀ j, j < 8 → H.cell (adr A ((i + k) * 8 + j)) = cs[j]?) ∧ StV H ss[k] cs
  | s :: ss, A, i, 0, h, _ => by simp only [StR] at h; exact h.1
  | s :: ss, A, i, k + 1, h, hk => by
    simp only [StR] at h
    have := StR.at_ (k := k) h.2 (by simpa using hk)
    rw [show i + 1 + k = i + (k + 1) by omega] at this
    exact this
/-- The eight cells that stand at a place. -/
abbrev Pl8 (H : AHeap) (A : Option Addr) (o : Nat) (k v b : Int) (e : Ex) (n1 n2 : Nat) (A0 : Option Addr) (c0 : Nat) (A1 : Option Addr) (c1 : Nat) (A2 : Option Addr) (c2 : Nat) : Prop :=
  H.cell (adr A o) = some (.int .i64 k) ∧ H.cell (adr A (o + 1)) = some (.int .i64 v) ∧ H.cell (adr A (o + 2)) = some (.int .i64 b) ∧ H.cell (adr A (o + 3)) = some (.int .i64 e.op) ∧ H.cell (adr A (o + 4)) = some (.int .i64 e.n) ∧
  H.cell (adr A (o + 5)) = some (.slice A0 e.args.length c0) ∧ H.cell (adr A (o + 6)) = some (.slice A1 n1 c1) ∧ H.cell (adr A (o + 7)) = some (.slice A2 n2 c2)
theorem Pl8.le {H H' : AHeap} (hl : AHeap.le H H') {A : Option Addr} {o : Nat} {k v b : Int} {e : Ex} {n1 n2 : Nat} {A0 : Option Addr} {c0 : Nat} {A1 : Option Addr} {c1 : Nat} {A2 : Option Addr} {c2 : Nat}
    (h : Pl8 H A o k v b e n1 n2 A0 c0 A1 c1 A2 c2) : Pl8 H' A o k v b e n1 n2 A0 c0 A1 c1 A2 c2 := by
  obtain ⟨h0, h1, h2, h3, h4, h5, h6, h7⟩ := h
  exact ⟨hl.cell h0, hl.cell h1, hl.cell h2, hl.cell h3, hl.cell h4, hl.cell h5, hl.cell h6, hl.cell h7⟩
/-- Cells in a row that read as statements. -/
def StL (H : AHeap) : List St → List Value → Prop
  | [], xs => xs = []
  | s :: ss, xs => ∃ cs ys, xs = cs ++ ys ∧ StV H s cs ∧ StL H ss ys
theorem StL.le {H H' : AHeap} (hl : AHeap.le H H') : ∀ {ss : List St} {xs : List Value}, StL H ss xs → StL H' ss xs
  | [], _, h => h
  | s :: ss, xs, h => by
    obtain ⟨cs, ys, h1, h2, h3⟩ := h
    exact ⟨cs, ys, h1, h2.le hl, h3.le hl⟩
theorem StL.len {H : AHeap} : ∀ {ss : List St} {xs : List Value}, StL H ss xs → xs.length = ss.length * 8
  | [], _, h => by simp only [StL] at h; subst h; rfl
  | s :: ss, xs, h => by
    obtain ⟨cs, ys, rfl, h2, h3⟩ := h
    have := h2.len
    have := h3.len
    simp only [List.length_append, List.length_cons]; omega
theorem StL.app {H : AHeap} : ∀ {ss ts : List St} {xs ys : List Value}, StL H ss xs → StL H ts ys → StL H (ss ++ ts) (xs ++ ys)
  | [], ts, xs, ys, h, h' => by simp only [StL] at h; subst h; exact h'
  | s :: ss, ts, xs, ys, h, h' => by
    obtain ⟨cs, zs, rfl, h2, h3⟩ := h
    exact ⟨cs, zs ++ ys, by rw [List.append_assoc], h2, h3.app h'⟩
theorem StL.one {H : AHeap} {s : St} {cs : List Value} (h : StV H s cs) : StL H [s] cs := ⟨cs, [], by simp, h, rfl⟩
theorem StL.take {H : AHeap} : ∀ {ss : List St} {xs : List Value} (k : Nat), StL H ss xs → StL H (ss.take k) (xs.take (k * 8))
  | [], _, k, h => by simp only [StL] at h; subst h; simp [StL]
  | s :: ss, xs, 0, h => by simp [StL]
  | s :: ss, xs, k + 1, h => by
    obtain ⟨cs, ys, rfl, h2, h3⟩ := h
    refine ⟨cs, ys.take (k * 8), ?_, h2, h3.take k⟩
    have := h2.len
    rw [List.take_append, List.take_of_length_le (by omega), show (k + 1) * 8 - cs.length = k * 8 by omega]
/-- The cells of statements in the heap, as a row. -/
theorem StR.fl {H : AHeap} {A : Option Addr} : ∀ {ss : List St} {i : Nat}, StR H ss A i → ∃ xs, StL H ss xs ∧ ∀ j v, xs[j]? = some v → H.cell (adr A (i * 8 + j)) = some v
  | [], i, _ => ⟨[], rfl, fun j v h => by cases h⟩
  | s :: ss, i, h => by
    simp only [StR] at h
    obtain ⟨⟨cs, h0, h1⟩, h2⟩ := h
    obtain ⟨ys, g1, g2⟩ := h2.fl
    have h8 := h1.len
    refine ⟨cs ++ ys, ⟨cs, ys, rfl, h1, g1⟩, fun j v hv => ?_⟩
    rw [List.getElem?_append] at hv
    split at hv
    · rw [h0 j (by omega)]; exact hv
    · have := g2 _ _ hv
      rw [show i * 8 + j = (i + 1) * 8 + (j - cs.length) by omega]
      exact this
mutual
/-- How many statements there are, those in blocks too. -/
def St.cnt : St → Nat
  | .mk _ _ _ _ body els => 1 + cntL body + cntL els
def cntL : List St → Nat
  | [] => 0
  | s :: ss => s.cnt + cntL ss
end
end Go.Proofs.Ytfjhjfddgdokgaa
namespace Go.Proofs.Ytfjhjfddgdokgaa
set_option linter.all false
open Go Go.RowKit
set_option maxRecDepth 100000
variable (w0 : World)
theorem qcells_app (p q : List Qd) : qcells (p ++ q) = qcells p ++ qcells q := by simp [qcells]
variable (H : AHeap) (K : Value → AHeap → Prop)
end Go.Proofs.Ytfjhjfddgdokgaa
namespace Go.Proofs.Ytfjhjfddgdokgaa
set_option linter.all false
open Go Go.RowKit
set_option maxRecDepth 100000
variable (w0 : World)
theorem q_oc (q : Qd) : ∀ v ∈ q.cells, v.oneCell' = true := by simp [ocI]
theorem qcells_cons (q : Qd) (l : List Qd) : qcells (q :: l) = q.cells ++ qcells l := by simp [qcells]
theorem qcells_one' (q : Qd) : qcells [q] = q.cells := by simp [qcells]
end Go.Proofs.Ytfjhjfddgdokgaa
namespace Go.Proofs.Ytfjhjfddgdokgaa
set_option linter.all false
open Go Go.RowKit
set_option maxRecDepth 100000
variable (w0 : World)
section
variable {H B C C2 C' : AHeap} {t : TypeId} {sz n : Nat} {v : Value} {xs : List Value}
end
theorem qcells_setn (x : Int) : ∀ (qs : List Qd) (i : Nat) (hi : i < qs.length), (qcells qs).set (i * 5 + 4) (.int .i64 x) = qcells (qs.set i ⟨qs[i].op, qs[i].dst, qs[i].a, qs[i].b, x⟩)
  | q :: qs, 0, _ => rfl
  | q :: qs, i + 1, hi => by
    have ih := qcells_setn x qs i (by simpa using hi)
    rw [qcells_cons, List.set_append_right _ _ (by show 5 ≤ _; omega)]
    have e : (i + 1) * 5 + 4 - q.cells.length = i * 5 + 4 := by show (i + 1) * 5 + 4 - 5 = _; omega
    rw [e, ih]
    rfl
theorem Row.put {H C : AHeap} {t : TypeId} {A : Option Addr} {n c i : Nat} {qs : List Qd} {x : Int} {D : Value → AHeap → Prop} (h : Row H C t 5 (.slice A n c) n (qcells qs)) (hi : i < qs.length) (hn : n = qs.length)
    (hD : ∀ C', Row H C' t 5 (.slice A n c) n (qcells (qs.set i ⟨qs[i].op, qs[i].dst, qs[i].a, qs[i].b, x⟩)) → D undef C') : stK 1 (.pointer (adr A (i * 5 + 4))) (.int .i64 x) D C := by
  obtain ⟨bs, l, nb, w⟩ := h
  obtain ⟨b', cap, e, rfl, h1, h2, h3, hk⟩ := w.open_ (by omega)
  simp only [Value.slice.injEq, true_and] at e
  obtain ⟨rfl, rfl⟩ := e
  rw [adr_lit, Nat.zero_add]
  refine st_kn hk rfl rfl (by show i * 5 + 4 + 1 ≤ (qcells qs).length; rw [qcells_len]; omega) (by simp [vcI, ocI]) (fun C' hc _ k => hD C' ⟨[b'], hc.keep l nb, nb, ?_⟩)
  have e2 : setR (qcells qs) (i * 5 + 4) (Value.int .i64 x).cells.toList = qcells (qs.set i ⟨qs[i].op, qs[i].dst, qs[i].a, qs[i].b, x⟩) := qcells_setn x qs i hi
  simp only at k
  rw [e2] at k
  exact Rw.mk k (by rw [qcells_len, List.length_set, hn]) h1 h2
end Go.Proofs.Ytfjhjfddgdokgaa
namespace Go.Proofs.Ytfjhjfddgdokgaa
set_option linter.all false
open Go Go.RowKit
set_option maxRecDepth 100000
variable (w0 : World)
theorem Row.one {H C : AHeap} {t : TypeId} {v : Value} {bytes b c xc : Nat} {o : Bool} {t' : TypeId} {qs : List Qd} {w0 : World} {P : Program} {K : Value → AHeap → Prop} (q : Qd) (h : Row H C t 5 v qs.length (qcells qs)) (hb : C b = none) (hm : qs.length ≤ 1099511627776) (hB : bytes = 40)
    (hK : ∀ v' C', Row H C' t 5 v' (qs ++ [q]).length (qcells (qs ++ [q])) → K v' C') : appK P w0 [.int .i64 0, .int .i64 0, .int .i64 0, .int .i64 0, .int .i64 0] t bytes v (.slice (some ⟨b, 0, none⟩) 1 xc) K (C.set b ⟨q.cells, o, t', c⟩) := by
  subst hB
  refine Row.app1 (m := 1) (z := [.int .i64 0, .int .i64 0, .int .i64 0, .int .i64 0, .int .i64 0]) h hb rfl (q_oc q) (by simp only [maxLen]; omega) (by omega) (fun v' C' r => hK v' C' ?_)
  rw [List.length_append, qcells_app, qcells_one']
  exact r
end Go.Proofs.Ytfjhjfddgdokgaa
namespace Go.Proofs.Ytfjhjfddgdokgaa
set_option linter.all false
open Go Go.RowKit
set_option maxRecDepth 100000
variable (w0 : World)
/-- A row of lists of statements. -/
def SR (H : AHeap) (A : Option Addr) (ts : List (List St)) : Prop := ∀ i (hi : i < ts.length), A.isSome = true ∧ ∃ A' c, H.cell (adr A i) = some (.slice A' ts[i].length c) ∧ StR H ts[i] A' 0
theorem SR.le {H H' : AHeap} {A : Option Addr} {ts : List (List St)} (h : SR H A ts) (hl : AHeap.le H H') : SR H' A ts := fun i hi => by
  obtain ⟨h1, A', c, h2, h3⟩ := h i hi
  exact ⟨h1, A', c, hl.cell h2, StR.le hl h3⟩
def roomB (r : Int) : Bool := decide (1 ≤ r) && decide (r ≤ 4)
def roomsOk (rs : List Int) : Bool := rs.all roomB && decide (rs.length ≤ 3)
theorem roomsValid_ok (H : AHeap) (K : Value → AHeap → Prop) (A : Option Addr) (c : Nat) (rs : List Int) (hx : Fl H A (ints rs)) (hn : rs.length ≤ 4611686018427387904) (h : K (.bool (roomsOk rs)) H) : ACalls Try.prog w0 102 [.slice A rs.length c] H K := by
  refine acalls_of_sx mix Try.func102 of102 (by simp [ir102]) ?_; rw [ir102]; (try delta qT qI qC qO qM qG)
  repeat' (first | simp -implicitDefEqProofs only [zG1,zG2,zG3,zG4,zG5,zG6,zG7,eq_self,resV,rval,X.val,binv,fillL,setR,↓reduceIte,Nat.reduceEqDiff,Nat.reduceAdd,Nat.reduceMul,Nat.reduceLeDiff,Nat.reduceLT,Nat.reduceSub,reduceCtorEq,zGq] | ((with_reducible refine rows_intro (fun _ hb => ?_)); try simp only [set_none, ne_eq] at hb) | ((with_reducible refine new_intro (fun _ hb => ?_)); try simp only [set_none, ne_eq] at hb) | (with_reducible refine draw_same ?_) | ((with_reducible refine gd_split ?_ (fun _ => ?_) (fun _ => ?_)); exact rfl) | ((with_reducible refine td_split ?_ (fun _ => ?_) (fun _ => ?_)); exact rfl) | (with_reducible refine c_split (fun _ => ?_) (fun _ => ?_)))
  refine for_rule rs.length (fun k fr C => C = H ∧ (∀ i (hi : i < rs.length), i < k → roomB rs[i] = true) ∧ fr 0 = .slice A rs.length c ∧ fr 5 = .slice A rs.length c ∧ fr 6 = .int .i64 rs.length ∧ fr 7 = .int .i64 k) ⟨rfl, fun i _ hi => by omega, (by first | rfl | (simp only [put_at, ↓reduceIte, Nat.reduceEqDiff]; first | done | rfl | assumption) | simp [put_at, *]), (by first | rfl | (simp only [put_at, ↓reduceIte, Nat.reduceEqDiff]; first | done | rfl | assumption) | simp [put_at, *]), (by first | rfl | (simp only [put_at, ↓reduceIte, Nat.reduceEqDiff]; first | done | rfl | assumption) | simp [put_at, *]), (by first | rfl | (simp only [put_at, ↓reduceIte, Nat.reduceEqDiff]; first | done | rfl | assumption) | simp [put_at, *])⟩ ?_ ?_
  · rintro k fr _ hk ⟨rfl, hok, f0, f5, f6, f7⟩ N hN
    have g0 := lt_dec hk
    have g1 := rng hk
    have g2 := up1 hk hn
    have q0 := hx.ints_is hk
    have q1 := hx.int hk
    cases hr : roomB rs[k] with
    | false =>
      have e : roomsOk rs = false := by
        have : rs.all roomB = false := by rw [List.all_eq_false]; exact ⟨_, List.getElem_mem hk, by simp [hr]⟩
        rw [roomsOk, this]; rfl
      rw [e] at h
      cases p1 : decide (rs[k] < 1) with
      | true =>
        repeat' (first | simp -implicitDefEqProofs only [zG1,zG2,zG3,zG4,zG5,zG6,zG7,eq_self,resV,rval,X.val,binv,fillL,setR,↓reduceIte,Nat.reduceEqDiff,Nat.reduceAdd,Nat.reduceMul,Nat.reduceLeDiff,Nat.reduceLT,Nat.reduceSub,reduceCtorEq,zGq, f0, f5, f6, f7, g0, g1, q0, q1, p1, Nat.mul_one] | ((with_reducible refine rows_intro (fun _ hb => ?_)); try simp only [set_none, ne_eq] at hb) | ((with_reducible refine new_intro (fun _ hb => ?_)); try simp only [set_none, ne_eq] at hb) | (with_reducible refine draw_same ?_) | ((with_reducible refine gd_split ?_ (fun _ => ?_) (fun _ => ?_)); exact rfl) | ((with_reducible refine td_split ?_ (fun _ => ?_) (fun _ => ?_)); exact rfl) | (with_reducible refine c_split (fun _ => ?_) (fun _ => ?_)))
        exact ret_same h
      | false =>
        have p2 : decide (rs[k] > 4) = true := by
          simp only [decide_eq_false_iff_not] at p1
          simp only [roomB, Bool.and_eq_false_iff, decide_eq_false_iff_not] at hr
          simp; omega
        repeat' (first | simp -implicitDefEqProofs only [zG1,zG2,zG3,zG4,zG5,zG6,zG7,eq_self,resV,rval,X.val,binv,fillL,setR,↓reduceIte,Nat.reduceEqDiff,Nat.reduceAdd,Nat.reduceMul,Nat.reduceLeDiff,Nat.reduceLT,Nat.reduceSub,reduceCtorEq,zGq, f0, f5, f6, f7, g0, g1, q0, q1, p1, p2, Nat.mul_one] | ((with_reducible refine rows_intro (fun _ hb => ?_)); try simp only [set_none, ne_eq] at hb) | ((with_reducible refine new_intro (fun _ hb => ?_)); try simp only [set_none, ne_eq] at hb) | (with_reducible refine draw_same ?_) | ((with_reducible refine gd_split ?_ (fun _ => ?_) (fun _ => ?_)); exact rfl) | ((with_reducible refine td_split ?_ (fun _ => ?_) (fun _ => ?_)); exact rfl) | (with_reducible refine c_split (fun _ => ?_) (fun _ => ?_)))
        exact ret_same h
    | true =>
      have hr' := hr
      simp only [roomB, Bool.and_eq_true, decide_eq_true_eq] at hr'
      have p1 : decide (rs[k] < 1) = false := by simp; omega
      have p2 : decide (rs[k] > 4) = false := by simp; omega
      repeat' (first | simp -implicitDefEqProofs only [zG1,zG2,zG3,zG4,zG5,zG6,zG7,eq_self,resV,rval,X.val,binv,fillL,setR,↓reduceIte,Nat.reduceEqDiff,Nat.reduceAdd,Nat.reduceMul,Nat.reduceLeDiff,Nat.reduceLT,Nat.reduceSub,reduceCtorEq,zGq, f0, f5, f6, f7, g0, g1, g2, q0, q1, p1, p2, Nat.mul_one] | ((with_reducible refine rows_intro (fun _ hb => ?_)); try simp only [set_none, ne_eq] at hb) | ((with_reducible refine new_intro (fun _ hb => ?_)); try simp only [set_none, ne_eq] at hb) | (with_reducible refine draw_same ?_) | ((with_reducible refine gd_split ?_ (fun _ => ?_) (fun _ => ?_)); exact rfl) | ((with_reducible refine td_split ?_ (fun _ => ?_) (fun _ => ?_)); exact rfl) | (with_reducible refine c_split (fun _ => ?_) (fun _ => ?_)))
      refine hN _ _ _ (.refl _) ⟨rfl, fun i hi hik => ?_, (by first | rfl | (simp only [put_at, ↓reduceIte, Nat.reduceEqDiff]; first | done | rfl | assumption) | simp [put_at, *]), (by first | rfl | (simp only [put_at, ↓reduceIte, Nat.reduceEqDiff]; first | done | rfl | assumption) | simp [put_at, *]), (by first | rfl | (simp only [put_at, ↓reduceIte, Nat.reduceEqDiff]; first | done | rfl | assumption) | simp [put_at, *]), (by first | rfl | (simp only [put_at, ↓reduceIte, Nat.reduceEqDiff]; first | done | rfl | assumption) | simp [put_at, *])⟩
      rcases Nat.lt_succ_iff_lt_or_eq.1 hik with hik | rfl
      · exact hok i hi hik
      · exact hr
  · rintro fr _ ⟨rfl, hok, f0, f5, f6, f7⟩ N
    have g0 : decide ((rs.length : Int) < (rs.length : Int)) = false := by simp
    have hall : rs.all roomB = true := by
      rw [List.all_eq_true]
      intro x hx
      obtain ⟨i, hi, rfl⟩ := List.getElem_of_mem hx
      exact hok i hi hi
    repeat' (first | simp -implicitDefEqProofs only [zG1,zG2,zG3,zG4,zG5,zG6,zG7,eq_self,resV,rval,X.val,binv,fillL,setR,↓reduceIte,Nat.reduceEqDiff,Nat.reduceAdd,Nat.reduceMul,Nat.reduceLeDiff,Nat.reduceLT,Nat.reduceSub,reduceCtorEq,zGq, f0, f5, f6, f7, g0] | ((with_reducible refine rows_intro (fun _ hb => ?_)); try simp only [set_none, ne_eq] at hb) | ((with_reducible refine new_intro (fun _ hb => ?_)); try simp only [set_none, ne_eq] at hb) | (with_reducible refine draw_same ?_) | ((with_reducible refine gd_split ?_ (fun _ => ?_) (fun _ => ?_)); exact rfl) | ((with_reducible refine td_split ?_ (fun _ => ?_) (fun _ => ?_)); exact rfl) | (with_reducible refine c_split (fun _ => ?_) (fun _ => ?_)))
    refine ret_same (kb h ?_)
    rw [roomsOk, hall, Bool.true_and, decide_eq_decide]; omega
theorem l12Rooms_ok (H : AHeap) (K : Value → AHeap → Prop) (A : Option Addr) (c : Nat) (rs : List Int) (hx : Fl H A (ints rs)) (hn : rs.length ≤ 4611686018427387904) (h : K (.bool (roomsOk rs)) H) : ACalls Try.prog w0 97 [.slice A rs.length c] H K := by
  refine acalls_of_sx mix Try.func97 of97 (by simp [ir97]) ?_; rw [ir97]; (try delta qT qI qC qO qM qG)
  repeat' (first | simp -implicitDefEqProofs only [zG1,zG2,zG3,zG4,zG5,zG6,zG7,eq_self,resV,rval,X.val,binv,fillL,setR,↓reduceIte,Nat.reduceEqDiff,Nat.reduceAdd,Nat.reduceMul,Nat.reduceLeDiff,Nat.reduceLT,Nat.reduceSub,reduceCtorEq,zGq] | ((with_reducible refine rows_intro (fun _ hb => ?_)); try simp only [set_none, ne_eq] at hb) | ((with_reducible refine new_intro (fun _ hb => ?_)); try simp only [set_none, ne_eq] at hb) | (with_reducible refine draw_same ?_) | ((with_reducible refine gd_split ?_ (fun _ => ?_) (fun _ => ?_)); exact rfl) | ((with_reducible refine td_split ?_ (fun _ => ?_) (fun _ => ?_)); exact rfl) | (with_reducible refine c_split (fun _ => ?_) (fun _ => ?_)))
  refine for_rule rs.length (fun k fr C => C = H ∧ (∀ i (hi : i < rs.length), i < k → roomB rs[i] = true) ∧ fr 0 = .slice A rs.length c ∧ fr 3 = .int .i64 k) ⟨rfl, fun i _ hi => by omega, (by first | rfl | (simp only [put_at, ↓reduceIte, Nat.reduceEqDiff]; first | done | rfl | assumption) | simp [put_at, *]), (by first | rfl | (simp only [put_at, ↓reduceIte, Nat.reduceEqDiff]; first | done | rfl | assumption) | simp [put_at, *])⟩ ?_ ?_
  · rintro k fr _ hk ⟨rfl, hok, f0, f7⟩ N hN
    have g0 := lt_dec hk
    have g1 := rng hk
    have g2 := up1 hk hn
    have q0 := hx.ints_is hk
    have q1 := hx.int hk
    cases hr : roomB rs[k] with
    | false =>
      have e : roomsOk rs = false := by
        have : rs.all roomB = false := by rw [List.all_eq_false]; exact ⟨_, List.getElem_mem hk, by simp [hr]⟩
        rw [roomsOk, this]; rfl
      rw [e] at h
      rw [roomB] at hr
      repeat' (first | simp -implicitDefEqProofs only [zG1,zG2,zG3,zG4,zG5,zG6,zG7,eq_self,resV,rval,X.val,binv,fillL,setR,↓reduceIte,Nat.reduceEqDiff,Nat.reduceAdd,Nat.reduceMul,Nat.reduceLeDiff,Nat.reduceLT,Nat.reduceSub,reduceCtorEq,zGq, f0, f7, g0, g1, q0, q1, hr, Nat.mul_one] | ((with_reducible refine rows_intro (fun _ hb => ?_)); try simp only [set_none, ne_eq] at hb) | ((with_reducible refine new_intro (fun _ hb => ?_)); try simp only [set_none, ne_eq] at hb) | (with_reducible refine draw_same ?_) | ((with_reducible refine gd_split ?_ (fun _ => ?_) (fun _ => ?_)); exact rfl) | ((with_reducible refine td_split ?_ (fun _ => ?_) (fun _ => ?_)); exact rfl) | (with_reducible refine c_split (fun _ => ?_) (fun _ => ?_)) | (with_reducible refine l6In_ok _ _ _ _ _ _ ?_))
      exact ret_same h
    | true =>
      have hr' := hr
      rw [roomB] at hr'
      repeat' (first | simp -implicitDefEqProofs only [zG1,zG2,zG3,zG4,zG5,zG6,zG7,eq_self,resV,rval,X.val,binv,fillL,setR,↓reduceIte,Nat.reduceEqDiff,Nat.reduceAdd,Nat.reduceMul,Nat.reduceLeDiff,Nat.reduceLT,Nat.reduceSub,reduceCtorEq,zGq, f0, f7, g0, g1, g2, q0, q1, hr', Nat.mul_one] | ((with_reducible refine rows_intro (fun _ hb => ?_)); try simp only [set_none, ne_eq] at hb) | ((with_reducible refine new_intro (fun _ hb => ?_)); try simp only [set_none, ne_eq] at hb) | (with_reducible refine draw_same ?_) | ((with_reducible refine gd_split ?_ (fun _ => ?_) (fun _ => ?_)); exact rfl) | ((with_reducible refine td_split ?_ (fun _ => ?_) (fun _ => ?_)); exact rfl) | (with_reducible refine c_split (fun _ => ?_) (fun _ => ?_)) | (with_reducible refine l6In_ok _ _ _ _ _ _ ?_))
      refine hN _ _ _ (.refl _) ⟨rfl, fun i hi hik => ?_, (by first | rfl | (simp only [put_at, ↓reduceIte, Nat.reduceEqDiff]; first | done | rfl | assumption) | simp [put_at, *]), (by first | rfl | (simp only [put_at, ↓reduceIte, Nat.reduceEqDiff]; first | done | rfl | assumption) | simp [put_at, *])⟩
      rcases Nat.lt_succ_iff_lt_or_eq.1 hik with hik | rfl
      · exact hok i hi hik
      · exact hr
  · rintro fr _ ⟨rfl, hok, f0, f7⟩ N
    have g0 : decide ((rs.length : Int) < (rs.length : Int)) = false := by simp
    have hall : rs.all roomB = true := by
      rw [List.all_eq_true]
      intro x hx
      obtain ⟨i, hi, rfl⟩ := List.getElem_of_mem hx
      exact hok i hi hi
    repeat' (first | simp -implicitDefEqProofs only [zG1,zG2,zG3,zG4,zG5,zG6,zG7,eq_self,resV,rval,X.val,binv,fillL,setR,↓reduceIte,Nat.reduceEqDiff,Nat.reduceAdd,Nat.reduceMul,Nat.reduceLeDiff,Nat.reduceLT,Nat.reduceSub,reduceCtorEq,zGq, f0, f7, g0] | ((with_reducible refine rows_intro (fun _ hb => ?_)); try simp only [set_none, ne_eq] at hb) | ((with_reducible refine new_intro (fun _ hb => ?_)); try simp only [set_none, ne_eq] at hb) | (with_reducible refine draw_same ?_) | ((with_reducible refine gd_split ?_ (fun _ => ?_) (fun _ => ?_)); exact rfl) | ((with_reducible refine td_split ?_ (fun _ => ?_) (fun _ => ?_)); exact rfl) | (with_reducible refine c_split (fun _ => ?_) (fun _ => ?_)))
    refine ret_same (kb h ?_)
    rw [roomsOk, hall, Bool.true_and, decide_eq_decide]; omega
end Go.Proofs.Ytfjhjfddgdokgaa
namespace Go.Proofs.Ytfjhjfddgdokgaa
set_option linter.all false
open Go Go.RowKit
set_option maxRecDepth 100000
variable (w0 : World)
abbrev z12 : List Int := [0, 0, 0, 0, 0, 0, 0, 0, 0, 0, 0, 0]
def zt (n : Nat) : List (List Int × Int) := List.replicate n (z12, 0)
theorem zt_len (n : Nat) : (zt n).length = n := by simp [zt]
theorem zt_succ (n : Nat) : zt (n + 1) = zt n ++ [(z12, 0)] := by simp [zt, List.replicate_succ']
def crN (L : List (List Qd)) (k : Nat) (rs : List Int) : Cr := ⟨L, zt k, bx0 rs, 0, 0, []⟩
def crZ : Cr := ⟨[], [], [], 0, 0, []⟩
def newOk (rs : List Int) (L : List (List Qd)) : Bool := roomsOk rs && crewOk (crN L L.length rs)
def newCrew (rs : List Int) (L : List (List Qd)) : Cr := if newOk rs L then crN L L.length rs else crZ
theorem crN_b {L : List (List Qd)} {rs : List Int} (hm : L.length ≤ 1048576) (hL : ∀ x ∈ L, x.length ≤ 1048576) (hr : rs.length ≤ 1048576) : CrB 1048576 (crN L L.length rs) :=
  ⟨hm, hL, by simp only [crN, zt_len]; exact hm, fun x hx => by
    simp only [crN, zt, List.mem_replicate] at hx; rw [hx.2]; simp, by simp only [crN, bx0_len]; exact hr, fun x hx => by
    simp only [crN, bx0, List.mem_map] at hx; obtain ⟨r, _, rfl⟩ := hx; simp, by simp [crN]⟩
theorem OwC.nil (C : AHeap) : OwC C crZ (.slice none 0 0) (.slice none 0 0) (.slice none 0 0) (.slice none 0 0) [] [] [] [] :=
  ⟨Rs.nil_ _ _ _ _, OP.nil_ _ _ _ _, OP.nil_ _ _ _ _, .inl ⟨rfl, rfl, rfl, rfl⟩, fun _ h => (by cases h), fun _ h => (by cases h), fun _ h => (by cases h), fun _ h => (by cases h), fun _ h => (by cases h), fun _ h => (by cases h), fun _ h => (by cases h)⟩
theorem OwC.thr {C C' : AHeap} {c c' : Cr} {v0 v1 v2 v5 v' : Value} {b0 b1 b2 b5 b8 ib : List Nat} (h : OwC C c v0 v1 v2 v5 b0 b1 b2 b5) (hc : Chg C C' b1) (hn : ∀ y, y ∈ b8 → y ∈ b1 ∨ y ∈ ib ∨ C y = none) (hi : Apart ib (b0 ++ (b2 ++ b5))) (kb : ∀ y, y ∈ b8 → C' y ≠ none) (e0 : c'.codes = c.codes) (e2 : c'.boxes = c.boxes) (e5 : c'.log = c.log) (w : OP C' 125 0 1 v' c'.threads b8) : OwC C' c' v0 v' v2 v5 b0 b8 b2 b5 := by
  have off : ∀ y, y ∈ b8 → ∀ {bs : List Nat}, (∀ y, y ∈ b1 → ¬ y ∈ bs) → (∀ y, y ∈ bs → y ∈ b0 ++ (b2 ++ b5)) → (∀ y, y ∈ bs → C y ≠ none) → ¬ y ∈ bs := fun y hy bs h1 h2 h3 hm => by
    rcases hn y hy with h' | h' | h'
    · exact h1 y h' hm
    · exact hi y h' (h2 y hm)
    · exact h3 y hm h'
  refine ⟨by rw [e0]; exact h.r0.chg hc h.d01.symm, w, by rw [e2]; exact h.r2.chg hc h.d12, by rw [e5]; exact h.r5.chg hc h.d15, fun y hy => off y hy h.d01 (fun y hy => by simp [hy]) fun y hy => h.kn y (by simp [hy]), h.d02, h.d05, fun y h2 h8 => off y h8 h.d12.symm (fun y hy => by simp [hy]) (fun y hy => h.kn y (by simp [hy])) h2, fun y h5 h8 => off y h8 h.d15.symm (fun y hy => by simp [hy]) (fun y hy => h.kn y (by simp [hy])) h5, h.d25, fun y hy => ?_⟩
  simp only [List.mem_append] at hy
  rcases hy with hy | hy | hy | hy
  · exact hc.kept (h.kn y (by simp [hy])) (h.d01.symm y hy)
  · exact kb y hy
  · exact hc.kept (h.kn y (by simp [hy])) (h.d12 y hy)
  · exact hc.kept (h.kn y (by simp [hy])) (h.d15 y hy)
theorem na1 {bs : List Nat} {x : Nat} (h : ¬ x ∈ bs) : Apart bs [x] := fun y hy hm => by
  simp only [List.mem_cons, List.not_mem_nil, or_false] at hm; exact h (hm ▸ hy)
theorem rd6 {D : AHeap} {x : Nat} {t : TypeId} {v0 v1 v2 v3 v4 v5 : Value} (k : Kn D x ⟨[v0, v1, v2, v3, v4, v5], true, t, 6⟩) : D.rdn (some ⟨x, 0, none⟩) 6 = some [v0, v1, v2, v3, v4, v5] := k.rdn (l := [_, _, _, _, _, _]) (o := 0) fun j _ => by rw [Nat.zero_add]
/-- The crew in its block, to be grown. -/
def CrG (B C : AHeap) (c : Cr) (x : Nat) : Prop := ∃ v0 v1 v2 v5 b0 b1 b2 b5, AHeap.le B C ∧ OwC C c v0 v1 v2 v5 b0 b1 b2 b5 ∧ New B (b0 ++ (b1 ++ (b2 ++ b5))) ∧ B x = none ∧ ¬ x ∈ b0 ++ (b1 ++ (b2 ++ b5)) ∧ Kn C x ⟨[v0, v1, v2, .int .i64 c.turn, .int .i64 c.last, v5], true, 62, 6⟩
section
variable {B C : AHeap} {L : List (List Qd)} {rs : List Int} {k x : Nat} {K : Value → AHeap → Prop}
theorem CrG.step (g : CrG B C (crN L k rs) x) (hk : k < 1048576) : ∃ v1, C.cell (some ⟨x, 1, none⟩) = some v1 ∧ ∀ (C1 C2 : AHeap) (x12 xl : Nat) (bytes xc : Nat) (z : List Value) (K : Value → AHeap → Prop), z.length = 2 → bytes ≤ 1000000 → AHeap.le C C1 → C x12 = none → Kn C1 x12 ⟨ints z12, true, 3, 12 * 1⟩ → AHeap.le C1 C2 → Fl C2 (some ⟨xl, 0, none⟩) [.slice (some ⟨x12, 0, none⟩) 12 12, .int .i64 0] →
    (∀ v' C3, (∀ (K : Value → AHeap → Prop), (∀ C4, CrG B C4 (crN L (k + 1) rs) x → K undef C4) → stK 1 (.pointer (some ⟨x, 1, none⟩)) v' K C3) → K v' C3) → appK Try.prog w0 z 125 bytes v1 (.slice (some ⟨xl, 0, none⟩) 1 xc) K C2 := by
  obtain ⟨v0, v1, v2, v5, b0, b1, b2, b5, l, o, n, hx, nx, kx⟩ := g
  refine ⟨v1, kx.cell (j := 1) rfl, fun C1 C2 x12 xl bytes xc z K hz hb l1 h12 k12 l2 fl h => ?_⟩
  have o2 := o.trans (l1.trans l2)
  have ol := o2.r1
  simp only [crN] at ol
  have hzl : (zt k).length = k := zt_len k
  have ni : Apart [x12] (b0 ++ (b1 ++ (b2 ++ b5))) := fun y hy hm => by
    simp only [List.mem_cons, List.not_mem_nil, or_false] at hy; subst hy; exact o.kn _ hm h12
  refine ol.app w0 (x := .slice (some ⟨x12, 0, none⟩) 12 12) (ib := [x12]) (xs := z12) (p := 0) (fun y hy => o2.kn y (by simp [hy])) (Rw.mk (n := 12) (k12.trans l2) rfl (Nat.le_refl _) (by simp [maxLen])) (fun y hy hm => ni y hy (by simp [hm])) hz rfl (by simp [ocI, ocS]) rfl rfl (by decide) (by decide) fl (by simp only [maxLen]; omega) (by rw [hzl]; exact Nat.le_trans (Nat.mul_le_mul (show k + 1 ≤ 1048576 by omega) hb) (by decide)) (fun v' C3 b8 h3 n8 kb8 w8 => ?_)
  rw [← zt_succ] at w8
  have o3 : OwC C3 (crN L (k + 1) rs) v0 v' v2 v5 b0 b8 b2 b5 := o2.thr (ib := [x12]) h3 n8 (fun y hy hm => ni y hy (by simp only [List.mem_append] at hm ⊢; rcases hm with hm | hm | hm <;> simp [hm])) kb8 rfl rfl rfl w8
  have b1all : ∀ y, y ∈ b1 → y ∈ b0 ++ (b1 ++ (b2 ++ b5)) := fun y hy => by simp [hy]
  have L3 : AHeap.le B C3 := h3.keep (l.trans (l1.trans l2)) fun y hy => n y (b1all y hy)
  have nx1 : ¬ x ∈ b1 := fun hm => nx (b1all x hm)
  have kx3 := (kx.trans (l1.trans l2)).chg h3 nx1
  have all8 : ∀ y, y ∈ b0 ++ (b8 ++ (b2 ++ b5)) → y ∈ b0 ++ (b1 ++ (b2 ++ b5)) ∨ y = x12 ∨ C2 y = none := fun y hy => by
    simp only [List.mem_append] at hy ⊢
    rcases hy with hy | hy | hy | hy
    · simp [hy]
    · rcases n8 y hy with h' | h' | h'
      · simp [h']
      · simp only [List.mem_cons, List.not_mem_nil, or_false] at h'; exact .inr (.inl h')
      · exact .inr (.inr h')
    · simp [hy]
    · simp [hy]
  refine h v' C3 fun K hK => ?_
  obtain ⟨V', e', rfl⟩ := w8.slice
  refine st_own kx3 [_] rfl rfl (by simp) (by simp [ocS]) (fun C4 h4 k4 => hK C4 ?_)
  simp only [setR, List.set_cons_zero, List.set_cons_succ] at k4
  have nx8 : ¬ x ∈ b0 ++ (b8 ++ (b2 ++ b5)) := fun hm => by
    rcases all8 x hm with h' | h' | h'
    · exact nx h'
    · subst h'; exact kx.ne h12
    · exact (kx.trans (l1.trans l2)).ne h'
  refine ⟨_, _, _, _, b0, b8, b2, b5, h4.keep L3 (New.one hx), o3.chg h4 (na1 fun hm => nx8 (by simp [hm])) (na1 fun hm => nx8 (by simp [hm])) (na1 fun hm => nx8 (by simp [hm])) (na1 fun hm => nx8 (by simp [hm])), fun y hy => ?_, hx, nx8, k4⟩
  rcases all8 y hy with h' | h' | h'
  · exact n y h'
  · subst h'; exact l.none h12
  · exact (l.trans (l1.trans l2)).none h'
end
end Go.Proofs.Ytfjhjfddgdokgaa
namespace Go.Proofs.Ytfjhjfddgdokgaa
set_option linter.all false
open Go Go.RowKit
set_option maxRecDepth 100000
variable (w0 : World)
section
variable (H : AHeap) (K : Value → AHeap → Prop) (A : Option Addr) (c : Nat) (rs : List Int) (B : Option Addr) (d : Nat) (L : List (List Qd))
theorem crewNew_ok (hx : Fl H A (ints rs)) (hn : rs.length ≤ 1048576) (hs : FR H B L) (hm : L.length ≤ 1048576) (hL : ∀ x ∈ L, x.length ≤ 1048576)
    (h : ∀ v0 v1 v2 v5 b0 b1 b2 b5 C, AHeap.le H C → OwC C (newCrew rs L) v0 v1 v2 v5 b0 b1 b2 b5 → New H (b0 ++ (b1 ++ (b2 ++ b5))) → K (.tuple #[.agg #[v0, v1, v2, .int .i64 (newCrew rs L).turn, .int .i64 (newCrew rs L).last, v5], .bool (newOk rs L)]) C) :
    ACalls Try.prog w0 41 [.slice A rs.length c, .slice B L.length d] H K := by
  refine acalls_of_sx mix Try.func41 of41 (by simp [ir41]) ?_; rw [ir41]; (try delta qT qI qC qO qM qG)
  repeat' (first | simp -implicitDefEqProofs only [zG1,zG2,zG3,zG4,zG5,zG6,zG7,eq_self,resV,rval,X.val,binv,fillL,setR,↓reduceIte,Nat.reduceEqDiff,Nat.reduceAdd,Nat.reduceMul,Nat.reduceLeDiff,Nat.reduceLT,Nat.reduceSub,reduceCtorEq,zGq])
  refine new_intro (fun x4 h4 => ?_)
  have l4 := (AHeap.le.refl H).fresh h4 ⟨crz, true, 62, 6⟩
  have k4 := Kn.same H x4 ⟨crz, true, 62, 6⟩
  generalize H.set x4 _ = C0 at l4 k4 ⊢
  repeat' (first | simp -implicitDefEqProofs only [zG1,zG2,zG3,zG4,zG5,zG6,zG7,eq_self,resV,rval,X.val,binv,fillL,setR,↓reduceIte,Nat.reduceEqDiff,Nat.reduceAdd,Nat.reduceMul,Nat.reduceLeDiff,Nat.reduceLT,Nat.reduceSub,reduceCtorEq,zGq])
  refine codesCopy_ok w0 C0 _ B d L (hs.le l4) hm hL (fun v0 C1 b0 l1 n0 kb0 R0 => ?_)
  obtain ⟨V0, e0, rfl⟩ := R0.slice
  repeat' (first | simp -implicitDefEqProofs only [zG1,zG2,zG3,zG4,zG5,zG6,zG7,eq_self,resV,rval,X.val,binv,fillL,setR,↓reduceIte,Nat.reduceEqDiff,Nat.reduceAdd,Nat.reduceMul,Nat.reduceLeDiff,Nat.reduceLT,Nat.reduceSub,reduceCtorEq,zGq])
  refine boxesNew_ok w0 C1 _ A c rs (hx.le (l4.trans l1)) hn (fun v2 C2 b2 l2 n2 kb2 R2 => ?_)
  obtain ⟨V2, e2, rfl⟩ := R2.slice
  repeat' (first | simp -implicitDefEqProofs only [zG1,zG2,zG3,zG4,zG5,zG6,zG7,eq_self,resV,rval,X.val,binv,fillL,setR,↓reduceIte,Nat.reduceEqDiff,Nat.reduceAdd,Nat.reduceMul,Nat.reduceLeDiff,Nat.reduceLT,Nat.reduceSub,reduceCtorEq,zGq])
  refine new_intro (fun x6 h6 => ?_)
  have l6' := (AHeap.le.refl C2).fresh h6 ⟨crz, true, 62, 6⟩
  have k6' := Kn.same C2 x6 ⟨crz, true, 62, 6⟩
  generalize C2.set x6 _ = C3 at l6' k6' ⊢
  repeat' (first | simp -implicitDefEqProofs only [zG1,zG2,zG3,zG4,zG5,zG6,zG7,eq_self,resV,rval,X.val,binv,fillL,setR,↓reduceIte,Nat.reduceEqDiff,Nat.reduceAdd,Nat.reduceMul,Nat.reduceLeDiff,Nat.reduceLT,Nat.reduceSub,reduceCtorEq,zGq])
  refine st_own k6' [.slice V0 (qmap L).length e0, .slice none 0 0, .slice V2 (bx0 rs).length e2, .int .i64 0, .int .i64 0, .slice none 0 0] rfl rfl (by simp) (by simp [ocS, ocI]) (fun C5 h5 k6 => ?_)
  simp only [setR, List.set_cons_zero, List.set_cons_succ] at k6
  have l5 : AHeap.le C2 C5 := h5.keep l6' (New.one h6)
  have n60 : ¬ x6 ∈ b0 := fun hm => le_kept l2 (kb0 _ hm) h6
  have n62 : ¬ x6 ∈ b2 := fun hm => kb2 _ hm h6
  have d20 : Apart b2 b0 := fun y h2 h0 => kb0 y h0 (n2 y h2)
  have G0 : CrG C0 C5 (crN L 0 rs) x6 := ⟨_, _, _, _, b0, [], b2, [], l1.trans (l2.trans l5), ⟨R0.trans (l2.trans l5), OP.nil_ _ _ _ _, R2.trans l5, .inl ⟨rfl, rfl, rfl, rfl⟩, fun _ h => (by cases h), d20, fun _ h => (by cases h), fun y _ h => (by cases h), fun _ h => (by cases h), fun _ h => (by cases h), fun y hy => by
      simp only [List.mem_append, List.not_mem_nil, or_false, false_or] at hy
      rcases hy with hy | hy
      · exact le_kept (l2.trans l5) (kb0 y hy)
      · exact le_kept l5 (kb2 y hy)⟩, fun y hy => by
      simp only [List.mem_append, List.not_mem_nil, or_false, false_or] at hy
      rcases hy with hy | hy
      · exact n0 y hy
      · exact l1.none (n2 y hy), l1.none (l2.none h6), fun hm => by
      simp only [List.mem_append, List.not_mem_nil, or_false, false_or] at hm
      rcases hm with hm | hm
      · exact n60 hm
      · exact n62 hm, k6⟩
  repeat' (first | simp -implicitDefEqProofs only [zG1,zG2,zG3,zG4,zG5,zG6,zG7,eq_self,resV,rval,X.val,binv,fillL,setR,↓reduceIte,Nat.reduceEqDiff,Nat.reduceAdd,Nat.reduceMul,Nat.reduceLeDiff,Nat.reduceLT,Nat.reduceSub,reduceCtorEq,zGq])
  refine for_rule L.length (fun k fr C => CrG C0 C (crN L k rs) x6 ∧ fr 0 = .slice A rs.length c ∧ fr 4 = .pointer (some ⟨x4, 0, none⟩) ∧ fr 6 = .pointer (some ⟨x6, 0, none⟩) ∧ fr 13 = .int .i64 L.length ∧ fr 14 = .int .i64 k)
    ⟨G0, (by first | rfl | (simp only [put_at, ↓reduceIte, Nat.reduceEqDiff]; first | done | rfl | assumption) | simp [put_at, *]), (by first | rfl | (simp only [put_at, ↓reduceIte, Nat.reduceEqDiff]; first | done | rfl | assumption) | simp [put_at, *]), (by first | rfl | (simp only [put_at, ↓reduceIte, Nat.reduceEqDiff]; first | done | rfl | assumption) | simp [put_at, *]), (by first | rfl | (simp only [put_at, ↓reduceIte, Nat.reduceEqDiff]; first | done | rfl | assumption) | simp [put_at, *]), (by first | rfl | (simp only [put_at, ↓reduceIte, Nat.reduceEqDiff]; first | done | rfl | assumption) | simp [put_at, *])⟩ ?_ ?_
  · rintro k fr C hk ⟨G, f0, f4, f6, f13, f14⟩ N hN
    have g0 := lt_dec hk
    have g1 := rng hk
    have g2 := up1 hk (by omega)
    obtain ⟨v1, q1, step⟩ := G.step w0 (by omega)
    have hv1 : ∃ V e, v1 = .slice V k e := by
      obtain ⟨_, u1, _, _, _, _, _, _, _, o, _, _, _, kx⟩ := G
      have e := kx.cell (j := 1) rfl
      rw [e] at q1
      obtain rfl := Option.some.inj q1
      obtain ⟨V, e, he⟩ := o.r1.slice
      exact ⟨V, e, by rw [he]; simp only [crN, zt_len]⟩
    obtain ⟨V1, e1, rfl⟩ := hv1
    repeat' (first | simp -implicitDefEqProofs only [zG1,zG2,zG3,zG4,zG5,zG6,zG7,eq_self,resV,rval,X.val,binv,fillL,setR,↓reduceIte,Nat.reduceEqDiff,Nat.reduceAdd,Nat.reduceMul,Nat.reduceLeDiff,Nat.reduceLT,Nat.reduceSub,reduceCtorEq,zGq, f0, f4, f6, f13, f14, g0, g1, q1] | (with_reducible refine draw_same ?_))
    refine mkI12 (fun x12 h12 => ?_)
    have l12 := (AHeap.le.refl C).fresh h12 ⟨ints z12, true, 3, 12 * 1⟩
    have k12 := Kn.same C x12 ⟨ints z12, true, 3, 12 * 1⟩
    generalize C.set x12 _ = C1 at l12 k12 ⊢
    repeat' (first | simp -implicitDefEqProofs only [zG1,zG2,zG3,zG4,zG5,zG6,zG7,eq_self,resV,rval,X.val,binv,fillL,setR,↓reduceIte,Nat.reduceEqDiff,Nat.reduceAdd,Nat.reduceMul,Nat.reduceLeDiff,Nat.reduceLT,Nat.reduceSub,reduceCtorEq,zGq])
    refine ⟨l12, ?_⟩
    repeat' (first | simp -implicitDefEqProofs only [zG1,zG2,zG3,zG4,zG5,zG6,zG7,eq_self,resV,rval,X.val,binv,fillL,setR,↓reduceIte,Nat.reduceEqDiff,Nat.reduceAdd,Nat.reduceMul,Nat.reduceLeDiff,Nat.reduceLT,Nat.reduceSub,reduceCtorEq,zGq])
    refine rows_intro (fun x20 h20 => ?_)
    have l20 := (AHeap.le.refl C1).fresh h20 ⟨[.slice (some ⟨x12, 0, none⟩) 12 12, .int .i64 0], true, 125, 2⟩
    have fl20 : Fl (C1.set x20 ⟨[.slice (some ⟨x12, 0, none⟩) 12 12, .int .i64 0], true, 125, 2⟩) (some ⟨x20, 0, none⟩) [.slice (some ⟨x12, 0, none⟩) 12 12, .int .i64 0] := Fl.blk _ _ _ _ fun _ _ h => h
    generalize C1.set x20 _ = C2' at l20 fl20 ⊢
    repeat' (first | simp -implicitDefEqProofs only [zG1,zG2,zG3,zG4,zG5,zG6,zG7,eq_self,resV,rval,X.val,binv,fillL,setR,↓reduceIte,Nat.reduceEqDiff,Nat.reduceAdd,Nat.reduceMul,Nat.reduceLeDiff,Nat.reduceLT,Nat.reduceSub,reduceCtorEq,zGq])
    refine ⟨l12.trans l20, ?_⟩
    refine step C1 C2' x12 x20 32 _ _ _ rfl (by decide) l12 h12 k12 l20 fl20 (fun v' C3' st => ?_)
    repeat' (first | simp -implicitDefEqProofs only [zG1,zG2,zG3,zG4,zG5,zG6,zG7,eq_self,resV,rval,X.val,binv,fillL,setR,↓reduceIte,Nat.reduceEqDiff,Nat.reduceAdd,Nat.reduceMul,Nat.reduceLeDiff,Nat.reduceLT,Nat.reduceSub,reduceCtorEq,zGq, f6])
    refine st _ (fun C4 G4 => ?_)
    repeat' (first | simp -implicitDefEqProofs only [zG1,zG2,zG3,zG4,zG5,zG6,zG7,eq_self,resV,rval,X.val,binv,fillL,setR,↓reduceIte,Nat.reduceEqDiff,Nat.reduceAdd,Nat.reduceMul,Nat.reduceLeDiff,Nat.reduceLT,Nat.reduceSub,reduceCtorEq,zGq, f0, f4, f6, f13, f14, g2])
    exact hN _ _ _ (.refl _) ⟨G4, (by first | rfl | (simp only [put_at, ↓reduceIte, Nat.reduceEqDiff]; first | done | rfl | assumption) | simp [put_at, *]), (by first | rfl | (simp only [put_at, ↓reduceIte, Nat.reduceEqDiff]; first | done | rfl | assumption) | simp [put_at, *]), (by first | rfl | (simp only [put_at, ↓reduceIte, Nat.reduceEqDiff]; first | done | rfl | assumption) | simp [put_at, *]), (by first | rfl | (simp only [put_at, ↓reduceIte, Nat.reduceEqDiff]; first | done | rfl | assumption) | simp [put_at, *]), (by first | rfl | (simp only [put_at, ↓reduceIte, Nat.reduceEqDiff]; first | done | rfl | assumption) | simp [put_at, *])⟩
  · rintro fr C ⟨G, f0, f4, f6, f13, f14⟩ N
    have g0 : decide ((L.length : Int) < (L.length : Int)) = false := by simp
    obtain ⟨v0, v1, v2, v5, b0, b1, b2, b5, l, o, n, hx6, nx6, kx⟩ := G
    have LH : AHeap.le H C := l4.trans l
    obtain ⟨D0, a0, D1, a1, D2, a2, D5, a5, rfl, rfl, rfl, rfl, hD⟩ := o.crR
    have r6 := rd6 kx
    have k4C := k4.trans l
    have nx4 : ¬ x4 ∈ b0 ++ (b1 ++ (b2 ++ b5)) := fun hm => k4.ne (n _ hm)
    cases e1 : roomsOk rs with
    | false =>
      have en : newOk rs L = false := by rw [newOk, e1]; rfl
      have ec : newCrew rs L = crZ := by rw [newCrew, en]; rfl
      rw [en, ec] at h
      repeat' (first | simp -implicitDefEqProofs only [zG1,zG2,zG3,zG4,zG5,zG6,zG7,eq_self,resV,rval,X.val,binv,fillL,setR,↓reduceIte,Nat.reduceEqDiff,Nat.reduceAdd,Nat.reduceMul,Nat.reduceLeDiff,Nat.reduceLT,Nat.reduceSub,reduceCtorEq,zGp, f0, f4, f6, f13, f14, g0, r6, e1] | (with_reducible refine roomsValid_ok w0 _ _ A c rs (hx.le LH) (by omega) ?_))
      refine st_own k4C crz rfl rfl (by simp) (by simp [ocS, ocI]) (fun C9 h9 k9 => ?_)
      simp only [setR, List.set_cons_zero, List.set_cons_succ] at k9
      have r9 := rd6 k9
      repeat' (first | simp -implicitDefEqProofs only [zG1,zG2,zG3,zG4,zG5,zG6,zG7,eq_self,resV,rval,X.val,binv,fillL,setR,↓reduceIte,Nat.reduceEqDiff,Nat.reduceAdd,Nat.reduceMul,Nat.reduceLeDiff,Nat.reduceLT,Nat.reduceSub,reduceCtorEq,zGp, f4, r9])
      exact ret_same (h _ _ _ _ [] [] [] [] C9 (h9.keep LH (New.one h4)) (OwC.nil _) (New.nil _))
    | true =>
      cases e2 : crewOk (crN L L.length rs) with
      | false =>
        have en : newOk rs L = false := by rw [newOk, e2, Bool.and_false]
        have ec : newCrew rs L = crZ := by rw [newCrew, en]; rfl
        rw [en, ec] at h
        repeat' (first | simp -implicitDefEqProofs only [zG1,zG2,zG3,zG4,zG5,zG6,zG7,eq_self,resV,rval,X.val,binv,fillL,setR,↓reduceIte,Nat.reduceEqDiff,Nat.reduceAdd,Nat.reduceMul,Nat.reduceLeDiff,Nat.reduceLT,Nat.reduceSub,reduceCtorEq,zGp, f0, f4, f6, f13, f14, g0, r6, e1, e2] | (with_reducible refine roomsValid_ok w0 _ _ A c rs (hx.le LH) (by omega) ?_) | (with_reducible refine crewValid_ok w0 _ _ (crN L L.length rs) D0 a0 D1 a1 D2 a2 D5 a5 hD (crN_b hm hL hn) ?_))
        refine st_own k4C crz rfl rfl (by simp) (by simp [ocS, ocI]) (fun C9 h9 k9 => ?_)
        simp only [setR, List.set_cons_zero, List.set_cons_succ] at k9
        have r9 := rd6 k9
        repeat' (first | simp -implicitDefEqProofs only [zG1,zG2,zG3,zG4,zG5,zG6,zG7,eq_self,resV,rval,X.val,binv,fillL,setR,↓reduceIte,Nat.reduceEqDiff,Nat.reduceAdd,Nat.reduceMul,Nat.reduceLeDiff,Nat.reduceLT,Nat.reduceSub,reduceCtorEq,zGp, f4, r9])
        exact ret_same (h _ _ _ _ [] [] [] [] C9 (h9.keep LH (New.one h4)) (OwC.nil _) (New.nil _))
      | true =>
        have en : newOk rs L = true := by rw [newOk, e1, e2]; rfl
        have ec : newCrew rs L = crN L L.length rs := by rw [newCrew, en]; rfl
        rw [en, ec] at h
        repeat' (first | simp -implicitDefEqProofs only [zG1,zG2,zG3,zG4,zG5,zG6,zG7,eq_self,resV,rval,X.val,binv,fillL,setR,↓reduceIte,Nat.reduceEqDiff,Nat.reduceAdd,Nat.reduceMul,Nat.reduceLeDiff,Nat.reduceLT,Nat.reduceSub,reduceCtorEq,zGp, f0, f4, f6, f13, f14, g0, r6, e1, e2] | (with_reducible refine roomsValid_ok w0 _ _ A c rs (hx.le LH) (by omega) ?_) | (with_reducible refine crewValid_ok w0 _ _ (crN L L.length rs) D0 a0 D1 a1 D2 a2 D5 a5 hD (crN_b hm hL hn) ?_))
        refine st_own k4C [_, _, _, _, _, _] rfl rfl (by simp) (by simp [ocS, ocI]) (fun C9 h9 k9 => ?_)
        simp only [setR, List.set_cons_zero, List.set_cons_succ] at k9
        have r9 := rd6 k9
        repeat' (first | simp -implicitDefEqProofs only [zG1,zG2,zG3,zG4,zG5,zG6,zG7,eq_self,resV,rval,X.val,binv,fillL,setR,↓reduceIte,Nat.reduceEqDiff,Nat.reduceAdd,Nat.reduceMul,Nat.reduceLeDiff,Nat.reduceLT,Nat.reduceSub,reduceCtorEq,zGp, f4, r9])
        exact ret_same (h _ _ _ _ b0 b1 b2 b5 C9 (h9.keep LH (New.one h4)) (o.chg h9 (na1 fun hm => nx4 (by simp [hm])) (na1 fun hm => nx4 (by simp [hm])) (na1 fun hm => nx4 (by simp [hm])) (na1 fun hm => nx4 (by simp [hm]))) (n.le l4))
end
end Go.Proofs.Ytfjhjfddgdokgaa
namespace Go.Proofs.Ytfjhjfddgdokgaa
set_option linter.all false
open Go Go.RowKit
set_option maxRecDepth 100000
variable (w0 : World)
section
variable (H : AHeap) (K : Value → AHeap → Prop) (A : Option Addr) (c : Nat) (rs : List Int) (B : Option Addr) (d : Nat) (L : List (List Qd))
theorem crewNewS_ok (hx : Fl H A (ints rs)) (hn : rs.length ≤ 1048576) (hs : FR H B L) (hm : L.length ≤ 1048576) (hL : ∀ x ∈ L, x.length ≤ 1048576)
    (h : ∀ v0 v1 v2 v5 b0 b1 b2 b5 C, AHeap.le H C → OwC C (newCrew rs L) v0 v1 v2 v5 b0 b1 b2 b5 → New H (b0 ++ (b1 ++ (b2 ++ b5))) → K (.tuple #[.agg #[v0, v1, v2, .int .i64 (newCrew rs L).turn, .int .i64 (newCrew rs L).last, v5], .bool (newOk rs L)]) C) :
    ACalls Try.prog w0 38 [.slice A rs.length c, .slice B L.length d] H K := by
  refine acalls_of_sx mix Try.func38 of38 (by simp [ir38]) ?_; rw [ir38]; (try delta qT qI qC qO qM qG)
  repeat' (first | simp -implicitDefEqProofs only [zG1,zG2,zG3,zG4,zG5,zG6,zG7,eq_self,resV,rval,X.val,binv,fillL,setR,↓reduceIte,Nat.reduceEqDiff,Nat.reduceAdd,Nat.reduceMul,Nat.reduceLeDiff,Nat.reduceLT,Nat.reduceSub,reduceCtorEq,zGq])
  refine new_intro (fun x4 h4 => ?_)
  have l4 := (AHeap.le.refl H).fresh h4 ⟨crz, true, 62, 6⟩
  have k4 := Kn.same H x4 ⟨crz, true, 62, 6⟩
  generalize H.set x4 _ = C0 at l4 k4 ⊢
  repeat' (first | simp -implicitDefEqProofs only [zG1,zG2,zG3,zG4,zG5,zG6,zG7,eq_self,resV,rval,X.val,binv,fillL,setR,↓reduceIte,Nat.reduceEqDiff,Nat.reduceAdd,Nat.reduceMul,Nat.reduceLeDiff,Nat.reduceLT,Nat.reduceSub,reduceCtorEq,zGq])
  cases e1 : roomsOk rs with
  | false =>
    have en : newOk rs L = false := by rw [newOk, e1]; rfl
    have ec : newCrew rs L = crZ := by rw [newCrew, en]; rfl
    rw [en, ec] at h
    repeat' (first | simp -implicitDefEqProofs only [zG1,zG2,zG3,zG4,zG5,zG6,zG7,eq_self,resV,rval,X.val,binv,fillL,setR,↓reduceIte,Nat.reduceEqDiff,Nat.reduceAdd,Nat.reduceMul,Nat.reduceLeDiff,Nat.reduceLT,Nat.reduceSub,reduceCtorEq,zGp, e1] | (with_reducible refine l12Rooms_ok w0 _ _ A c rs (hx.le l4) (by omega) ?_))
    refine st_own k4 crz rfl rfl (by simp) (by simp [ocS, ocI]) (fun C9 h9 k9 => ?_)
    simp only [setR, List.set_cons_zero, List.set_cons_succ] at k9
    have r9 := rd6 k9
    repeat' (first | simp -implicitDefEqProofs only [zG1,zG2,zG3,zG4,zG5,zG6,zG7,eq_self,resV,rval,X.val,binv,fillL,setR,↓reduceIte,Nat.reduceEqDiff,Nat.reduceAdd,Nat.reduceMul,Nat.reduceLeDiff,Nat.reduceLT,Nat.reduceSub,reduceCtorEq,zGp, r9])
    exact ret_same (h _ _ _ _ [] [] [] [] C9 (h9.keep l4 (New.one h4)) (OwC.nil _) (New.nil _))
  | true =>
  repeat' (first | simp -implicitDefEqProofs only [zG1,zG2,zG3,zG4,zG5,zG6,zG7,eq_self,resV,rval,X.val,binv,fillL,setR,↓reduceIte,Nat.reduceEqDiff,Nat.reduceAdd,Nat.reduceMul,Nat.reduceLeDiff,Nat.reduceLT,Nat.reduceSub,reduceCtorEq,zGp, e1] | (with_reducible refine l12Rooms_ok w0 _ _ A c rs (hx.le l4) (by omega) ?_))
  refine l24Codes_ok w0 C0 _ B d L (hs.le l4) hm hL (fun v0 C1 b0 l1 n0 kb0 R0 => ?_)
  obtain ⟨V0, e0, rfl⟩ := R0.slice
  repeat' (first | simp -implicitDefEqProofs only [zG1,zG2,zG3,zG4,zG5,zG6,zG7,eq_self,resV,rval,X.val,binv,fillL,setR,↓reduceIte,Nat.reduceEqDiff,Nat.reduceAdd,Nat.reduceMul,Nat.reduceLeDiff,Nat.reduceLT,Nat.reduceSub,reduceCtorEq,zGq])
  refine rows_intro (fun x14 h14 => ?_)
  have l14 := (AHeap.le.refl C1).fresh h14 ⟨[], true, 125, 0⟩
  have k14 := Kn.same C1 x14 ⟨[], true, 125, 0⟩
  change putK _ _ _ _ (C1.set x14 ⟨[], true, 125, 0⟩)
  generalize C1.set x14 _ = C1' at l14 k14 ⊢
  have n140 : ¬ x14 ∈ b0 := fun hm => kb0 _ hm h14
  repeat' (first | simp -implicitDefEqProofs only [zG1,zG2,zG3,zG4,zG5,zG6,zG7,eq_self,resV,rval,X.val,binv,fillL,setR,↓reduceIte,Nat.reduceEqDiff,Nat.reduceAdd,Nat.reduceMul,Nat.reduceLeDiff,Nat.reduceLT,Nat.reduceSub,reduceCtorEq,zGq])
  refine l16Empty_ok w0 C1' _ A c rs (hx.le (l4.trans (l1.trans l14))) hn (fun v2 C2 b2 l2 n2 kb2 R2 => ?_)
  obtain ⟨V2, e2, rfl⟩ := R2.slice
  have n142 : ¬ x14 ∈ b2 := fun hm => k14.ne (n2 _ hm)
  repeat' (first | simp -implicitDefEqProofs only [zG1,zG2,zG3,zG4,zG5,zG6,zG7,eq_self,resV,rval,X.val,binv,fillL,setR,↓reduceIte,Nat.reduceEqDiff,Nat.reduceAdd,Nat.reduceMul,Nat.reduceLeDiff,Nat.reduceLT,Nat.reduceSub,reduceCtorEq,zGq])
  refine rows_intro (fun x17 h17 => ?_)
  have l17 := (AHeap.le.refl C2).fresh h17 ⟨[], true, 3, 0⟩
  have k17 := Kn.same C2 x17 ⟨[], true, 3, 0⟩
  change putK _ _ _ _ (C2.set x17 ⟨[], true, 3, 0⟩)
  generalize C2.set x17 _ = C2' at l17 k17 ⊢
  have n170 : ¬ x17 ∈ b0 := fun hm => le_kept (l14.trans l2) (kb0 _ hm) h17
  have n172 : ¬ x17 ∈ b2 := fun hm => kb2 _ hm h17
  have n1714 : ¬ x17 = x14 := by rintro rfl; exact (k14.trans l2).ne h17
  repeat' (first | simp -implicitDefEqProofs only [zG1,zG2,zG3,zG4,zG5,zG6,zG7,eq_self,resV,rval,X.val,binv,fillL,setR,↓reduceIte,Nat.reduceEqDiff,Nat.reduceAdd,Nat.reduceMul,Nat.reduceLeDiff,Nat.reduceLT,Nat.reduceSub,reduceCtorEq,zGq])
  refine new_intro (fun x6 h6 => ?_)
  have l6' := (AHeap.le.refl C2').fresh h6 ⟨crz, true, 62, 6⟩
  have k6' := Kn.same C2' x6 ⟨crz, true, 62, 6⟩
  generalize C2'.set x6 _ = C3 at l6' k6' ⊢
  repeat' (first | simp -implicitDefEqProofs only [zG1,zG2,zG3,zG4,zG5,zG6,zG7,eq_self,resV,rval,X.val,binv,fillL,setR,↓reduceIte,Nat.reduceEqDiff,Nat.reduceAdd,Nat.reduceMul,Nat.reduceLeDiff,Nat.reduceLT,Nat.reduceSub,reduceCtorEq,zGq])
  refine st_own k6' [.slice V0 (qmap L).length e0, .slice (some ⟨x14, 0, none⟩) 0 0, .slice V2 (bx0 rs).length e2, .int .i64 0, .int .i64 0, .slice (some ⟨x17, 0, none⟩) 0 0] rfl rfl (by simp) (by simp [ocS, ocI]) (fun C5 h5 k6 => ?_)
  simp only [setR, List.set_cons_zero, List.set_cons_succ] at k6
  have l5 : AHeap.le C2' C5 := h5.keep l6' (New.one h6)
  have lz : AHeap.le C1 C5 := l14.trans (l2.trans (l17.trans l5))
  have kall : ∀ y, y ∈ b0 ++ ([x14] ++ (b2 ++ [x17])) → C2' y ≠ none := fun y hy => by
    simp only [List.mem_append, List.mem_cons, List.not_mem_nil, or_false] at hy
    rcases hy with hy | hy | hy | hy
    · exact le_kept (l14.trans (l2.trans l17)) (kb0 y hy)
    · subst hy; exact (k14.trans (l2.trans l17)).ne
    · exact le_kept l17 (kb2 y hy)
    · subst hy; exact k17.ne
  have d20 : Apart b2 b0 := fun y h2 h0 => le_kept l14 (kb0 y h0) (n2 y h2)
  have one : ∀ {x : Nat} {bs : List Nat}, ¬ x ∈ bs → Apart [x] bs := fun h y hy hm => by
    simp only [List.mem_cons, List.not_mem_nil, or_false] at hy; subst hy; exact h hm
  have w17 : Rw C5 3 1 (.slice (some ⟨x17, 0, none⟩) 0 0) 0 [] [x17] := Rw.mk (n := 0) (k17.trans l5) rfl (Nat.le_refl _) (Nat.zero_le _)
  have G0 : CrG C0 C5 (crN L 0 rs) x6 := ⟨_, _, _, _, b0, [x14], b2, [x17], l1.trans lz, ⟨R0.trans lz, OP.empty (Rw.mk (n := 0) (k14.trans (l2.trans (l17.trans l5))) rfl (Nat.le_refl _) (Nat.zero_le _)) _ _, R2.trans (l17.trans l5), w17, one n140, d20, one n170, (one n142).symm, one (by simpa using n1714), one n172, fun y hy => le_kept l5 (kall y hy)⟩, fun y hy => by
      simp only [List.mem_append, List.mem_cons, List.not_mem_nil, or_false] at hy
      rcases hy with hy | hy | hy | hy
      · exact n0 y hy
      · subst hy; exact l1.none h14
      · exact (l1.trans l14).none (n2 y hy)
      · subst hy; exact (l1.trans (l14.trans l2)).none h17, (l1.trans (l14.trans (l2.trans l17))).none h6, fun hm => kall _ hm h6, k6⟩
  repeat' (first | simp -implicitDefEqProofs only [zG1,zG2,zG3,zG4,zG5,zG6,zG7,eq_self,resV,rval,X.val,binv,fillL,setR,↓reduceIte,Nat.reduceEqDiff,Nat.reduceAdd,Nat.reduceMul,Nat.reduceLeDiff,Nat.reduceLT,Nat.reduceSub,reduceCtorEq,zGq])
  refine for_rule L.length (fun k fr C => CrG C0 C (crN L k rs) x6 ∧ fr 1 = .slice B L.length d ∧ fr 4 = .pointer (some ⟨x4, 0, none⟩) ∧ fr 6 = .pointer (some ⟨x6, 0, none⟩) ∧ fr 7 = .int .i64 k)
    ⟨G0, (by first | rfl | (simp only [put_at, ↓reduceIte, Nat.reduceEqDiff]; first | done | rfl | assumption) | simp [put_at, *]), (by first | rfl | (simp only [put_at, ↓reduceIte, Nat.reduceEqDiff]; first | done | rfl | assumption) | simp [put_at, *]), (by first | rfl | (simp only [put_at, ↓reduceIte, Nat.reduceEqDiff]; first | done | rfl | assumption) | simp [put_at, *]), (by first | rfl | (simp only [put_at, ↓reduceIte, Nat.reduceEqDiff]; first | done | rfl | assumption) | simp [put_at, *])⟩ ?_ ?_
  · rintro k fr C hk ⟨G, f1, f4, f6, f7⟩ N hN
    have g0 := lt_dec hk
    have g1 := rng hk
    have g2 := up1 hk (by omega)
    obtain ⟨v1, q1, step⟩ := G.step w0 (by omega)
    have hv1 : ∃ V e, v1 = .slice V k e := by
      obtain ⟨_, u1, _, _, _, _, _, _, _, o, _, _, _, kx⟩ := G
      have e := kx.cell (j := 1) rfl
      rw [e] at q1
      obtain rfl := Option.some.inj q1
      obtain ⟨V, e, he⟩ := o.r1.slice
      exact ⟨V, e, by rw [he]; simp only [crN, zt_len]⟩
    obtain ⟨V1, e1, rfl⟩ := hv1
    repeat' (first | simp -implicitDefEqProofs only [zG1,zG2,zG3,zG4,zG5,zG6,zG7,eq_self,resV,rval,X.val,binv,fillL,setR,↓reduceIte,Nat.reduceEqDiff,Nat.reduceAdd,Nat.reduceMul,Nat.reduceLeDiff,Nat.reduceLT,Nat.reduceSub,reduceCtorEq,zGq, f1, f4, f6, f7, g0, g1, q1] | (with_reducible refine draw_same ?_))
    refine mkI12 (fun x12 h12 => ?_)
    have l12 := (AHeap.le.refl C).fresh h12 ⟨ints z12, true, 3, 12 * 1⟩
    have k12 := Kn.same C x12 ⟨ints z12, true, 3, 12 * 1⟩
    generalize C.set x12 _ = C1 at l12 k12 ⊢
    repeat' (first | simp -implicitDefEqProofs only [zG1,zG2,zG3,zG4,zG5,zG6,zG7,eq_self,resV,rval,X.val,binv,fillL,setR,↓reduceIte,Nat.reduceEqDiff,Nat.reduceAdd,Nat.reduceMul,Nat.reduceLeDiff,Nat.reduceLT,Nat.reduceSub,reduceCtorEq,zGq])
    refine ⟨l12, ?_⟩
    repeat' (first | simp -implicitDefEqProofs only [zG1,zG2,zG3,zG4,zG5,zG6,zG7,eq_self,resV,rval,X.val,binv,fillL,setR,↓reduceIte,Nat.reduceEqDiff,Nat.reduceAdd,Nat.reduceMul,Nat.reduceLeDiff,Nat.reduceLT,Nat.reduceSub,reduceCtorEq,zGq])
    refine rows_intro (fun x20 h20 => ?_)
    have l20 := (AHeap.le.refl C1).fresh h20 ⟨[.slice (some ⟨x12, 0, none⟩) 12 12, .int .i64 0], true, 125, 2⟩
    have fl20 : Fl (C1.set x20 ⟨[.slice (some ⟨x12, 0, none⟩) 12 12, .int .i64 0], true, 125, 2⟩) (some ⟨x20, 0, none⟩) [.slice (some ⟨x12, 0, none⟩) 12 12, .int .i64 0] := Fl.blk _ _ _ _ fun _ _ h => h
    generalize C1.set x20 _ = C2' at l20 fl20 ⊢
    repeat' (first | simp -implicitDefEqProofs only [zG1,zG2,zG3,zG4,zG5,zG6,zG7,eq_self,resV,rval,X.val,binv,fillL,setR,↓reduceIte,Nat.reduceEqDiff,Nat.reduceAdd,Nat.reduceMul,Nat.reduceLeDiff,Nat.reduceLT,Nat.reduceSub,reduceCtorEq,zGq])
    refine ⟨l12.trans l20, ?_⟩
    refine step C1 C2' x12 x20 32 _ _ _ rfl (by decide) l12 h12 k12 l20 fl20 (fun v' C3' st => ?_)
    repeat' (first | simp -implicitDefEqProofs only [zG1,zG2,zG3,zG4,zG5,zG6,zG7,eq_self,resV,rval,X.val,binv,fillL,setR,↓reduceIte,Nat.reduceEqDiff,Nat.reduceAdd,Nat.reduceMul,Nat.reduceLeDiff,Nat.reduceLT,Nat.reduceSub,reduceCtorEq,zGq, f6])
    refine st _ (fun C4 G4 => ?_)
    repeat' (first | simp -implicitDefEqProofs only [zG1,zG2,zG3,zG4,zG5,zG6,zG7,eq_self,resV,rval,X.val,binv,fillL,setR,↓reduceIte,Nat.reduceEqDiff,Nat.reduceAdd,Nat.reduceMul,Nat.reduceLeDiff,Nat.reduceLT,Nat.reduceSub,reduceCtorEq,zGq, f1, f4, f6, f7, g2])
    exact hN _ _ _ (.refl _) ⟨G4, (by first | rfl | (simp only [put_at, ↓reduceIte, Nat.reduceEqDiff]; first | done | rfl | assumption) | simp [put_at, *]), (by first | rfl | (simp only [put_at, ↓reduceIte, Nat.reduceEqDiff]; first | done | rfl | assumption) | simp [put_at, *]), (by first | rfl | (simp only [put_at, ↓reduceIte, Nat.reduceEqDiff]; first | done | rfl | assumption) | simp [put_at, *]), (by first | rfl | (simp only [put_at, ↓reduceIte, Nat.reduceEqDiff]; first | done | rfl | assumption) | simp [put_at, *])⟩
  · rintro fr C ⟨G, f1, f4, f6, f7⟩ N
    have g0 : decide ((L.length : Int) < (L.length : Int)) = false := by simp
    obtain ⟨v0, v1, v2, v5, b0, b1, b2, b5, l, o, n, hx6, nx6, kx⟩ := G
    have LH : AHeap.le H C := l4.trans l
    obtain ⟨D0, a0, D1, a1, D2, a2, D5, a5, rfl, rfl, rfl, rfl, hD⟩ := o.crR
    have r6 := rd6 kx
    have k4C := k4.trans l
    have nx4 : ¬ x4 ∈ b0 ++ (b1 ++ (b2 ++ b5)) := fun hm => k4.ne (n _ hm)
    cases e2 : crewOk (crN L L.length rs) with
    | false =>
      have en : newOk rs L = false := by rw [newOk, e2, Bool.and_false]
      have ec : newCrew rs L = crZ := by rw [newCrew, en]; rfl
      rw [en, ec] at h
      repeat' (first | simp -implicitDefEqProofs only [zG1,zG2,zG3,zG4,zG5,zG6,zG7,eq_self,resV,rval,X.val,binv,fillL,setR,↓reduceIte,Nat.reduceEqDiff,Nat.reduceAdd,Nat.reduceMul,Nat.reduceLeDiff,Nat.reduceLT,Nat.reduceSub,reduceCtorEq,zGp, f1, f4, f6, f7, g0, r6, e1, e2] | (with_reducible refine crewValidS_ok w0 _ _ (crN L L.length rs) D0 a0 D1 a1 D2 a2 D5 a5 hD (crN_b hm hL hn) ?_))
      refine st_own k4C crz rfl rfl (by simp) (by simp [ocS, ocI]) (fun C9 h9 k9 => ?_)
      simp only [setR, List.set_cons_zero, List.set_cons_succ] at k9
      have r9 := rd6 k9
      repeat' (first | simp -implicitDefEqProofs only [zG1,zG2,zG3,zG4,zG5,zG6,zG7,eq_self,resV,rval,X.val,binv,fillL,setR,↓reduceIte,Nat.reduceEqDiff,Nat.reduceAdd,Nat.reduceMul,Nat.reduceLeDiff,Nat.reduceLT,Nat.reduceSub,reduceCtorEq,zGp, f4, r9])
      exact ret_same (h _ _ _ _ [] [] [] [] C9 (h9.keep LH (New.one h4)) (OwC.nil _) (New.nil _))
    | true =>
      have en : newOk rs L = true := by rw [newOk, e1, e2]; rfl
      have ec : newCrew rs L = crN L L.length rs := by rw [newCrew, en]; rfl
      rw [en, ec] at h
      repeat' (first | simp -implicitDefEqProofs only [zG1,zG2,zG3,zG4,zG5,zG6,zG7,eq_self,resV,rval,X.val,binv,fillL,setR,↓reduceIte,Nat.reduceEqDiff,Nat.reduceAdd,Nat.reduceMul,Nat.reduceLeDiff,Nat.reduceLT,Nat.reduceSub,reduceCtorEq,zGp, f1, f4, f6, f7, g0, r6, e1, e2] | (with_reducible refine crewValidS_ok w0 _ _ (crN L L.length rs) D0 a0 D1 a1 D2 a2 D5 a5 hD (crN_b hm hL hn) ?_))
      refine st_own k4C [_, _, _, _, _, _] rfl rfl (by simp) (by simp [ocS, ocI]) (fun C9 h9 k9 => ?_)
      simp only [setR, List.set_cons_zero, List.set_cons_succ] at k9
      have r9 := rd6 k9
      repeat' (first | simp -implicitDefEqProofs only [zG1,zG2,zG3,zG4,zG5,zG6,zG7,eq_self,resV,rval,X.val,binv,fillL,setR,↓reduceIte,Nat.reduceEqDiff,Nat.reduceAdd,Nat.reduceMul,Nat.reduceLeDiff,Nat.reduceLT,Nat.reduceSub,reduceCtorEq,zGp, f4, r9])
      exact ret_same (h _ _ _ _ b0 b1 b2 b5 C9 (h9.keep LH (New.one h4)) (o.chg h9 (na1 fun hm => nx4 (by simp [hm])) (na1 fun hm => nx4 (by simp [hm])) (na1 fun hm => nx4 (by simp [hm])) (na1 fun hm => nx4 (by simp [hm]))) (n.le l4))
end
end Go.Proofs.Ytfjhjfddgdokgaa
namespace Go.Proofs.Ytfjhjfddgdokgaa
set_option linter.all false
open Go Go.RowKit
set_option maxRecDepth 100000
variable (w0 : World) (H : AHeap) (K : Value → AHeap → Prop)
theorem markQuadSS_rs (A : Option Addr) (m c : Nat) (L : List (List Value)) (bs : List Nat) (k0 : Int) (hR : Rs H 29 111 5 (.slice A m c) L bs) (hn : L.length ≤ 1048576) (h0 : 0 ≤ k0) (h1 : k0 + 5 * (tot 5 L : Int) ≤ 4294967295)
    (h : ∀ C' M, Chg H C' bs → Marked 5 (fun k n => ints (marks k (n * 5))) k0 5 L M → Rs C' 29 111 5 (.slice A m c) M bs → K (.int .i64 (k0 + 5 * (tot 5 L : Int))) C') : ACalls Try.prog w0 30 [.slice A m c, .int .i64 k0] H K := by
  have em := hR.len
  subst em
  refine acalls_of_sx mix Try.func30 of30 (by simp [ir30]) ?_; rw [ir30]; (try delta qT qI qC qO qM qG)
  repeat' (first | simp -implicitDefEqProofs only [zG1,zG2,zG3,zG4,zG5,zG6,zG7,eq_self,resV,rval,X.val,binv,fillL,setR,↓reduceIte,Nat.reduceEqDiff,Nat.reduceAdd,Nat.reduceMul,Nat.reduceLeDiff,Nat.reduceLT,Nat.reduceSub,reduceCtorEq,zGq] | ((with_reducible refine rows_intro (fun _ hb => ?_)); try simp only [set_none, ne_eq] at hb) | ((with_reducible refine new_intro (fun _ hb => ?_)); try simp only [set_none, ne_eq] at hb) | (with_reducible refine draw_same ?_) | ((with_reducible refine gd_split ?_ (fun _ => ?_) (fun _ => ?_)); exact rfl) | ((with_reducible refine td_split ?_ (fun _ => ?_) (fun _ => ?_)); exact rfl) | (with_reducible refine c_split (fun _ => ?_) (fun _ => ?_)))
  refine for_rule L.length (fun i fr C => ∃ M, Chg H C bs ∧ Midd 5 (fun k n => ints (marks k (n * 5))) k0 5 L M i ∧ Rs C 29 111 5 (.slice A L.length c) M bs ∧ fr 0 = .slice A L.length c ∧ fr 1 = .int .i64 (k0 + 5 * (tot 5 (L.take i) : Int)) ∧ fr 5 = .int .i64 i)
    ⟨L, Chg.refl _ _, Midd.start, hR, (by first | rfl | (simp only [put_at, ↓reduceIte, Nat.reduceEqDiff]; first | done | rfl | assumption) | simp [put_at, *]), by simp [fr0, put_at, tot], (by first | rfl | (simp only [put_at, ↓reduceIte, Nat.reduceEqDiff]; first | done | rfl | assumption) | simp [put_at, *])⟩ ?_ ?_
  · rintro i fr C hi ⟨M, hc, hM, hR', f0, f1, f5⟩ N hN
    have hMl := hM.1
    have g0 := lt_dec hi
    have g1 := rng hi
    have g3 := up1 hi (by omega)
    obtain ⟨q1, x, ib, n, q2, wx, hib, -, put⟩ := hR'.inner (i := i) (by omega)
    obtain ⟨A', c', rfl⟩ := wx.slice
    have hlen := wx.len
    have hMi : M[i]'(by omega) = L[i] := hM.at_ hi
    rw [hMi] at wx hlen
    have htk := tot_take (sz := 5) hi hlen
    have hts := tot_take_le 5 L (i + 1)
    repeat' (first | simp -implicitDefEqProofs only [zG1,zG2,zG3,zG4,zG5,zG6,zG7,eq_self,resV,rval,X.val,binv,fillL,setR,↓reduceIte,Nat.reduceEqDiff,Nat.reduceAdd,Nat.reduceMul,Nat.reduceLeDiff,Nat.reduceLT,Nat.reduceSub,reduceCtorEq,zGq, f0, f1, f5, g0, g1, q1, q2, Nat.mul_one] | ((with_reducible refine rows_intro (fun _ hb => ?_)); try simp only [set_none, ne_eq] at hb) | ((with_reducible refine new_intro (fun _ hb => ?_)); try simp only [set_none, ne_eq] at hb) | (with_reducible refine draw_same ?_) | ((with_reducible refine gd_split ?_ (fun _ => ?_) (fun _ => ?_)); exact rfl) | ((with_reducible refine td_split ?_ (fun _ => ?_) (fun _ => ?_)); exact rfl) | (with_reducible refine c_split (fun _ => ?_) (fun _ => ?_)))
    refine markQuadS_rw _ _ _ wx (by omega) _ (by omega) (by omega) (fun C2 hc2 w2 => ?_)
    have R2 := put C2 _ hc2 w2
    have e1 : k0 + 5 * (tot 5 (L.take i) : Int) + 5 * (n : Int) = k0 + 5 * (tot 5 (L.take (i + 1)) : Int) := by rw [htk]; push_cast; omega
    rw [e1]
    repeat' (first | simp -implicitDefEqProofs only [zG1,zG2,zG3,zG4,zG5,zG6,zG7,eq_self,resV,rval,X.val,binv,fillL,setR,↓reduceIte,Nat.reduceEqDiff,Nat.reduceAdd,Nat.reduceMul,Nat.reduceLeDiff,Nat.reduceLT,Nat.reduceSub,reduceCtorEq,zGq, f0, f1, f5, g3] | ((with_reducible refine rows_intro (fun _ hb => ?_)); try simp only [set_none, ne_eq] at hb) | ((with_reducible refine new_intro (fun _ hb => ?_)); try simp only [set_none, ne_eq] at hb) | (with_reducible refine draw_same ?_) | ((with_reducible refine gd_split ?_ (fun _ => ?_) (fun _ => ?_)); exact rfl) | ((with_reducible refine td_split ?_ (fun _ => ?_) (fun _ => ?_)); exact rfl) | (with_reducible refine c_split (fun _ => ?_) (fun _ => ?_)))
    refine hN _ _ _ (.refl _) ⟨_, hc.trans (hc2.mono hib), hM.step hi hlen, R2, (by first | rfl | (simp only [put_at, ↓reduceIte, Nat.reduceEqDiff]; first | done | rfl | assumption) | simp [put_at, *]), (by first | rfl | (simp only [put_at, ↓reduceIte, Nat.reduceEqDiff]; first | done | rfl | assumption) | simp [put_at, *]), (by first | rfl | (simp only [put_at, ↓reduceIte, Nat.reduceEqDiff]; first | done | rfl | assumption) | simp [put_at, *])⟩
  · rintro fr C ⟨M, hc, hM, hR', f0, f1, f5⟩ N
    have g0 : decide ((L.length : Int) < (L.length : Int)) = false := by simp
    rw [List.take_length] at f1
    repeat' (first | simp -implicitDefEqProofs only [zG1,zG2,zG3,zG4,zG5,zG6,zG7,eq_self,resV,rval,X.val,binv,fillL,setR,↓reduceIte,Nat.reduceEqDiff,Nat.reduceAdd,Nat.reduceMul,Nat.reduceLeDiff,Nat.reduceLT,Nat.reduceSub,reduceCtorEq,zGq, f0, f1, f5, g0] | ((with_reducible refine rows_intro (fun _ hb => ?_)); try simp only [set_none, ne_eq] at hb) | ((with_reducible refine new_intro (fun _ hb => ?_)); try simp only [set_none, ne_eq] at hb) | (with_reducible refine draw_same ?_) | ((with_reducible refine gd_split ?_ (fun _ => ?_) (fun _ => ?_)); exact rfl) | ((with_reducible refine td_split ?_ (fun _ => ?_) (fun _ => ?_)); exact rfl) | (with_reducible refine c_split (fun _ => ?_) (fun _ => ?_)))
    exact ret_same (h _ M hc hM.done hR')
theorem heldQuadSS_ok (A : Option Addr) (m c : Nat) (L M : List (List Value)) (bs : List Nat) (k0 : Int) (hR : Rs H 29 111 5 (.slice A m c) M bs) (hL : ∀ x ∈ L, ∃ n, x.length = n * 5) (hn : L.length ≤ 1048576) (hM : Marked 5 (fun k n => ints (marks k (n * 5))) k0 5 L M) (h0 : 0 ≤ k0) (h1 : k0 + 5 * (tot 5 L : Int) ≤ 4294967295)
    (h : K (.int .i64 (k0 + 5 * (tot 5 L : Int))) H) : ACalls Try.prog w0 31 [.slice A m c, .int .i64 k0] H K := by
  have em := hR.len
  rw [hM.1] at em
  subst em
  refine acalls_of_sx mix Try.func31 of31 (by simp [ir31]) ?_; rw [ir31]; (try delta qT qI qC qO qM qG)
  repeat' (first | simp -implicitDefEqProofs only [zG1,zG2,zG3,zG4,zG5,zG6,zG7,eq_self,resV,rval,X.val,binv,fillL,setR,↓reduceIte,Nat.reduceEqDiff,Nat.reduceAdd,Nat.reduceMul,Nat.reduceLeDiff,Nat.reduceLT,Nat.reduceSub,reduceCtorEq,zGq] | ((with_reducible refine rows_intro (fun _ hb => ?_)); try simp only [set_none, ne_eq] at hb) | ((with_reducible refine new_intro (fun _ hb => ?_)); try simp only [set_none, ne_eq] at hb) | (with_reducible refine draw_same ?_) | ((with_reducible refine gd_split ?_ (fun _ => ?_) (fun _ => ?_)); exact rfl) | ((with_reducible refine td_split ?_ (fun _ => ?_) (fun _ => ?_)); exact rfl) | (with_reducible refine c_split (fun _ => ?_) (fun _ => ?_)))
  refine for_rule L.length (fun i fr C => C = H ∧ fr 0 = .slice A L.length c ∧ fr 1 = .int .i64 (k0 + 5 * (tot 5 (L.take i) : Int)) ∧ fr 5 = .int .i64 i)
    ⟨rfl, (by first | rfl | (simp only [put_at, ↓reduceIte, Nat.reduceEqDiff]; first | done | rfl | assumption) | simp [put_at, *]), by simp [fr0, put_at, tot], (by first | rfl | (simp only [put_at, ↓reduceIte, Nat.reduceEqDiff]; first | done | rfl | assumption) | simp [put_at, *])⟩ ?_ ?_
  · rintro i fr C hi ⟨rfl, f0, f1, f5⟩ N hN
    have g0 := lt_dec hi
    have g1 := rng hi
    have g3 := up1 hi (by omega)
    obtain ⟨n, hlen⟩ := hL _ (List.getElem_mem hi)
    obtain ⟨q1, A', n', c', q2, fl, hl⟩ := hR.row (i := i) (by rw [hM.1]; exact hi)
    have hMi := hM.at_ hi hlen
    rw [hMi] at fl hl
    have en : n' = n := by
      simp only [ints_len, marks_len] at hl
      omega
    subst en
    have htk := tot_take (sz := 5) hi hlen
    have hts := tot_take_le 5 L (i + 1)
    have d1 : decide (k0 + 5 * (tot 5 (L.take (i + 1)) : Int) < 0) = false := by simp; omega
    repeat' (first | simp -implicitDefEqProofs only [zG1,zG2,zG3,zG4,zG5,zG6,zG7,eq_self,resV,rval,X.val,binv,fillL,setR,↓reduceIte,Nat.reduceEqDiff,Nat.reduceAdd,Nat.reduceMul,Nat.reduceLeDiff,Nat.reduceLT,Nat.reduceSub,reduceCtorEq,zGq, f0, f1, f5, g0, g1, q1, q2, Nat.mul_one] | ((with_reducible refine rows_intro (fun _ hb => ?_)); try simp only [set_none, ne_eq] at hb) | ((with_reducible refine new_intro (fun _ hb => ?_)); try simp only [set_none, ne_eq] at hb) | (with_reducible refine draw_same ?_) | ((with_reducible refine gd_split ?_ (fun _ => ?_) (fun _ => ?_)); exact rfl) | ((with_reducible refine td_split ?_ (fun _ => ?_) (fun _ => ?_)); exact rfl) | (with_reducible refine c_split (fun _ => ?_) (fun _ => ?_)))
    refine heldQuadS_ok _ _ _ A' _ c' _ fl (by omega) (by omega) (by omega) ?_
    have e1 : k0 + 5 * (tot 5 (L.take i) : Int) + 5 * (n' : Int) = k0 + 5 * (tot 5 (L.take (i + 1)) : Int) := by rw [htk]; push_cast; omega
    rw [e1]
    repeat' (first | simp -implicitDefEqProofs only [zG1,zG2,zG3,zG4,zG5,zG6,zG7,eq_self,resV,rval,X.val,binv,fillL,setR,↓reduceIte,Nat.reduceEqDiff,Nat.reduceAdd,Nat.reduceMul,Nat.reduceLeDiff,Nat.reduceLT,Nat.reduceSub,reduceCtorEq,zGq, f0, f1, f5, g3, d1] | ((with_reducible refine rows_intro (fun _ hb => ?_)); try simp only [set_none, ne_eq] at hb) | ((with_reducible refine new_intro (fun _ hb => ?_)); try simp only [set_none, ne_eq] at hb) | (with_reducible refine draw_same ?_) | ((with_reducible refine gd_split ?_ (fun _ => ?_) (fun _ => ?_)); exact rfl) | ((with_reducible refine td_split ?_ (fun _ => ?_) (fun _ => ?_)); exact rfl) | (with_reducible refine c_split (fun _ => ?_) (fun _ => ?_)))
    exact hN _ _ _ (.refl _) ⟨rfl, (by first | rfl | (simp only [put_at, ↓reduceIte, Nat.reduceEqDiff]; first | done | rfl | assumption) | simp [put_at, *]), (by first | rfl | (simp only [put_at, ↓reduceIte, Nat.reduceEqDiff]; first | done | rfl | assumption) | simp [put_at, *]), (by first | rfl | (simp only [put_at, ↓reduceIte, Nat.reduceEqDiff]; first | done | rfl | assumption) | simp [put_at, *])⟩
  · rintro fr C ⟨rfl, f0, f1, f5⟩ N
    have g0 : decide ((L.length : Int) < (L.length : Int)) = false := by simp
    rw [List.take_length] at f1
    repeat' (first | simp -implicitDefEqProofs only [zG1,zG2,zG3,zG4,zG5,zG6,zG7,eq_self,resV,rval,X.val,binv,fillL,setR,↓reduceIte,Nat.reduceEqDiff,Nat.reduceAdd,Nat.reduceMul,Nat.reduceLeDiff,Nat.reduceLT,Nat.reduceSub,reduceCtorEq,zGq, f0, f1, f5, g0] | ((with_reducible refine rows_intro (fun _ hb => ?_)); try simp only [set_none, ne_eq] at hb) | ((with_reducible refine new_intro (fun _ hb => ?_)); try simp only [set_none, ne_eq] at hb) | (with_reducible refine draw_same ?_) | ((with_reducible refine gd_split ?_ (fun _ => ?_) (fun _ => ?_)); exact rfl) | ((with_reducible refine td_split ?_ (fun _ => ?_) (fun _ => ?_)); exact rfl) | (with_reducible refine c_split (fun _ => ?_) (fun _ => ?_)))
    exact ret_same h
end Go.Proofs.Ytfjhjfddgdokgaa
namespace Go.Proofs.Ytfjhjfddgdokgaa
set_option linter.all false
open Go Go.RowKit
set_option maxRecDepth 100000
variable (w0 : World)
abbrev Prs := List (List Int × Int)
def mkTh : Int → Prs → Prs
  | _, [] => []
  | k, t :: ts => (marks k t.1.length, k + t.1.length) :: mkTh (k + t.1.length + 1) ts
def mkBx : Int → Prs → Prs
  | _, [] => []
  | k, t :: ts => (marks (k + 1) t.1.length, k) :: mkBx (k + 1 + t.1.length) ts
theorem sumP_cons (t : List Int × Int) (ts : Prs) : sumP (t :: ts) = t.1.length + sumP ts := by simp [sumP]
theorem mkTh_app : ∀ (a b : Prs) (k : Int), mkTh k (a ++ b) = mkTh k a ++ mkTh (k + sumP a + a.length) b
  | [], b, k => by simp [mkTh, sumP]
  | t :: a, b, k => by
    simp only [List.cons_append, mkTh, mkTh_app a b, sumP_cons, List.length_cons]
    congr 3
    push_cast; omega
theorem mkBx_app : ∀ (a b : Prs) (k : Int), mkBx k (a ++ b) = mkBx k a ++ mkBx (k + sumP a + a.length) b
  | [], b, k => by simp [mkBx, sumP]
  | t :: a, b, k => by
    simp only [List.cons_append, mkBx, mkBx_app a b, sumP_cons, List.length_cons]
    congr 3
    push_cast; omega
theorem mkTh_len : ∀ (a : Prs) (k : Int), (mkTh k a).length = a.length
  | [], _ => rfl
  | t :: a, k => by simp only [mkTh, List.length_cons, mkTh_len a]
theorem mkBx_len : ∀ (a : Prs) (k : Int), (mkBx k a).length = a.length
  | [], _ => rfl
  | t :: a, k => by simp only [mkBx, List.length_cons, mkBx_len a]
theorem mkTh_take {ts : Prs} {i : Nat} (hi : i < ts.length) (k : Int) : mkTh k (ts.take (i + 1)) = mkTh k (ts.take i) ++ [(marks (k + sumP (ts.take i) + i) ts[i].1.length, k + sumP (ts.take i) + i + ts[i].1.length)] := by
  have e : ts.take (i + 1) = ts.take i ++ [ts[i]] := by rw [List.take_add_one, List.getElem?_eq_getElem hi]; rfl
  rw [e, mkTh_app, List.length_take, Nat.min_eq_left (by omega)]
  rfl
theorem mkBx_take {ts : Prs} {i : Nat} (hi : i < ts.length) (k : Int) : mkBx k (ts.take (i + 1)) = mkBx k (ts.take i) ++ [(marks (k + sumP (ts.take i) + i + 1) ts[i].1.length, k + sumP (ts.take i) + i)] := by
  have e : ts.take (i + 1) = ts.take i ++ [ts[i]] := by rw [List.take_add_one, List.getElem?_eq_getElem hi]; rfl
  rw [e, mkBx_app, List.length_take, Nat.min_eq_left (by omega)]
  rfl
theorem mid_at {α : Type} {a : List α} {ts : List α} {i : Nat} (ha : a.length = i) (hi : i < ts.length) : (a ++ ts.drop i)[i]'(by rw [List.length_append, List.length_drop]; omega) = ts[i] := by
  rw [List.getElem_append_right (by omega), List.getElem_drop]
  congr 1; omega
theorem mid_set {α : Type} {a : List α} {ts : List α} {i : Nat} (ha : a.length = i) (hi : i < ts.length) (x : α) : (a ++ ts.drop i).set i x = (a ++ [x]) ++ ts.drop (i + 1) := by
  rw [List.set_append_right _ _ (by omega), ha, Nat.sub_self, List.drop_eq_getElem_cons hi, List.set_cons_zero, List.append_assoc]
  rfl
theorem mkTh_at {ts : Prs} {i : Nat} (hi : i < ts.length) (k : Int) (h : i < (mkTh k ts).length) : (mkTh k ts)[i] = (marks (k + sumP (ts.take i) + i) ts[i].1.length, k + sumP (ts.take i) + i + ts[i].1.length) := by
  have e : mkTh k ts = mkTh k (ts.take (i + 1)) ++ mkTh (k + sumP (ts.take (i + 1)) + (ts.take (i + 1)).length) (ts.drop (i + 1)) := by rw [← mkTh_app, List.take_append_drop]
  have hl : (mkTh k (ts.take i)).length = i := by rw [mkTh_len, List.length_take]; omega
  have : (mkTh k ts)[i]? = some (marks (k + sumP (ts.take i) + i) ts[i].1.length, k + sumP (ts.take i) + i + ts[i].1.length) := by
    rw [e, mkTh_take hi, List.append_assoc, List.getElem?_append_right (by omega), hl, Nat.sub_self]
    rfl
  rw [List.getElem?_eq_getElem h] at this
  exact Option.some.inj this
theorem mkBx_at {ts : Prs} {i : Nat} (hi : i < ts.length) (k : Int) (h : i < (mkBx k ts).length) : (mkBx k ts)[i] = (marks (k + sumP (ts.take i) + i + 1) ts[i].1.length, k + sumP (ts.take i) + i) := by
  have e : mkBx k ts = mkBx k (ts.take (i + 1)) ++ mkBx (k + sumP (ts.take (i + 1)) + (ts.take (i + 1)).length) (ts.drop (i + 1)) := by rw [← mkBx_app, List.take_append_drop]
  have hl : (mkBx k (ts.take i)).length = i := by rw [mkBx_len, List.length_take]; omega
  have : (mkBx k ts)[i]? = some (marks (k + sumP (ts.take i) + i + 1) ts[i].1.length, k + sumP (ts.take i) + i) := by
    rw [e, mkBx_take hi, List.append_assoc, List.getElem?_append_right (by omega), hl, Nat.sub_self]
    rfl
  rw [List.getElem?_eq_getElem h] at this
  exact Option.some.inj this
section
variable (H : AHeap) (K : Value → AHeap → Prop)
theorem markThreadS_op (A : Option Addr) (m c : Nat) (ts : Prs) (bs : List Nat) (k0 : Int) (hR : OP H 125 0 1 (.slice A m c) ts bs) (hn : ts.length ≤ 1048576) (hL : sumP ts ≤ 1048576) (h0 : 0 ≤ k0) (h1 : k0 ≤ 1099511627776)
    (h : ∀ C, Chg H C bs → OP C 125 0 1 (.slice A m c) (mkTh k0 ts) bs → K (.int .i64 (k0 + sumP ts + ts.length)) C) : ACalls Try.prog w0 103 [.slice A m c, .int .i64 k0] H K := by
  have em := hR.fp.2
  subst em
  refine acalls_of_sx mix Try.func103 of103 (by simp [ir103]) ?_; rw [ir103]; (try delta qT qI qC qO qM qG)
  repeat' (first | simp -implicitDefEqProofs only [zG1,zG2,zG3,zG4,zG5,zG6,zG7,eq_self,resV,rval,X.val,binv,fillL,setR,↓reduceIte,Nat.reduceEqDiff,Nat.reduceAdd,Nat.reduceMul,Nat.reduceLeDiff,Nat.reduceLT,Nat.reduceSub,reduceCtorEq,zGq] | ((with_reducible refine rows_intro (fun _ hb => ?_)); try simp only [set_none, ne_eq] at hb) | ((with_reducible refine new_intro (fun _ hb => ?_)); try simp only [set_none, ne_eq] at hb) | (with_reducible refine draw_same ?_) | ((with_reducible refine gd_split ?_ (fun _ => ?_) (fun _ => ?_)); exact rfl) | ((with_reducible refine td_split ?_ (fun _ => ?_) (fun _ => ?_)); exact rfl) | (with_reducible refine c_split (fun _ => ?_) (fun _ => ?_)))
  refine for_rule ts.length (fun i fr C => Chg H C bs ∧ OP C 125 0 1 (.slice A ts.length c) (mkTh k0 (ts.take i) ++ ts.drop i) bs ∧ fr 0 = .slice A ts.length c ∧ fr 1 = .int .i64 (k0 + sumP (ts.take i) + i) ∧ fr 5 = .int .i64 i)
    ⟨Chg.refl _ _, by simpa [mkTh] using hR, (by first | rfl | (simp only [put_at, ↓reduceIte, Nat.reduceEqDiff]; first | done | rfl | assumption) | simp [put_at, *]), (show Value.int .i64 k0 = .int .i64 (k0 + (sumP (ts.take 0) : Int) + ((0 : Nat) : Int)) by simp [sumP]), (by first | rfl | (simp only [put_at, ↓reduceIte, Nat.reduceEqDiff]; first | done | rfl | assumption) | simp [put_at, *])⟩ ?_ ?_
  · rintro i fr C hi ⟨hc, hO, f0, f1, f5⟩ N hN
    have g0 := lt_dec hi
    have g1 := rng hi
    have g3 := up1 hi (by omega)
    have hs1 := sumP_step hi
    have hs2 := sumP_le ts (i + 1)
    have ha : (mkTh k0 (ts.take i)).length = i := by rw [mkTh_len, List.length_take]; omega
    have hil : i < (mkTh k0 (ts.take i) ++ ts.drop i).length := by rw [List.length_append, List.length_drop]; omega
    obtain ⟨gA, x, ib, q, rw_, hib, upd⟩ := hO.inner hil
    simp only [mid_at ha hi] at rw_ upd
    rw [Nat.add_zero] at q
    repeat' (first | simp -implicitDefEqProofs only [zG1,zG2,zG3,zG4,zG5,zG6,zG7,eq_self,resV,rval,X.val,binv,fillL,setR,↓reduceIte,Nat.reduceEqDiff,Nat.reduceAdd,Nat.reduceMul,Nat.reduceLeDiff,Nat.reduceLT,Nat.reduceSub,reduceCtorEq,zGq, f0, f1, f5, g0, g1, gA, q, Nat.add_zero] | ((with_reducible refine rows_intro (fun _ hb => ?_)); try simp only [set_none, ne_eq] at hb) | ((with_reducible refine new_intro (fun _ hb => ?_)); try simp only [set_none, ne_eq] at hb) | (with_reducible refine draw_same ?_) | ((with_reducible refine gd_split ?_ (fun _ => ?_) (fun _ => ?_)); exact rfl) | ((with_reducible refine td_split ?_ (fun _ => ?_) (fun _ => ?_)); exact rfl) | (with_reducible refine c_split (fun _ => ?_) (fun _ => ?_)))
    refine markIntS_rw w0 _ _ rw_ (by omega) _ (by omega) (by omega) (fun C1 hc1 r1 => ?_)
    have O1 := upd C1 _ (marks_len _ _) hc1 r1
    have hil' : i < ((mkTh k0 (ts.take i) ++ ts.drop i).set i (marks (k0 + sumP (ts.take i) + i) ts[i].1.length, ts[i].2)).length := by rw [List.length_set]; exact hil
    have w1 : IntKind.i64.wrap (k0 + sumP (ts.take i) + i + ts[i].1.length + 1) = k0 + (sumP (ts.take (i + 1)) : Int) + ((i + 1 : Nat) : Int) := by
      rw [wrap_i64 (by omega) (by omega)]; omega
    repeat' (first | simp -implicitDefEqProofs only [zG1,zG2,zG3,zG4,zG5,zG6,zG7,eq_self,resV,rval,X.val,binv,fillL,setR,↓reduceIte,Nat.reduceEqDiff,Nat.reduceAdd,Nat.reduceMul,Nat.reduceLeDiff,Nat.reduceLT,Nat.reduceSub,reduceCtorEq,zGq, f0, f1, f5, g1, gA, Nat.add_zero] | ((with_reducible refine rows_intro (fun _ hb => ?_)); try simp only [set_none, ne_eq] at hb) | ((with_reducible refine new_intro (fun _ hb => ?_)); try simp only [set_none, ne_eq] at hb) | (with_reducible refine draw_same ?_) | ((with_reducible refine gd_split ?_ (fun _ => ?_) (fun _ => ?_)); exact rfl) | ((with_reducible refine td_split ?_ (fun _ => ?_) (fun _ => ?_)); exact rfl) | (with_reducible refine c_split (fun _ => ?_) (fun _ => ?_)))
    refine O1.num hil' (.inl ⟨rfl, rfl⟩) (fun C2 hc2 O2 => ?_)
    rw [List.getElem_set_self, List.set_set, mid_set ha hi, ← mkTh_take hi] at O2
    repeat' (first | simp -implicitDefEqProofs only [zG1,zG2,zG3,zG4,zG5,zG6,zG7,eq_self,resV,rval,X.val,binv,fillL,setR,↓reduceIte,Nat.reduceEqDiff,Nat.reduceAdd,Nat.reduceMul,Nat.reduceLeDiff,Nat.reduceLT,Nat.reduceSub,reduceCtorEq,zGq, f0, f1, f5, g3, w1] | ((with_reducible refine rows_intro (fun _ hb => ?_)); try simp only [set_none, ne_eq] at hb) | ((with_reducible refine new_intro (fun _ hb => ?_)); try simp only [set_none, ne_eq] at hb) | (with_reducible refine draw_same ?_) | ((with_reducible refine gd_split ?_ (fun _ => ?_) (fun _ => ?_)); exact rfl) | ((with_reducible refine td_split ?_ (fun _ => ?_) (fun _ => ?_)); exact rfl) | (with_reducible refine c_split (fun _ => ?_) (fun _ => ?_)))
    exact hN _ _ _ (.refl _) ⟨hc.trans ((hc1.mono hib).trans hc2), O2, (by first | rfl | (simp only [put_at, ↓reduceIte, Nat.reduceEqDiff]; first | done | rfl | assumption) | simp [put_at, *]), (by first | rfl | (simp only [put_at, ↓reduceIte, Nat.reduceEqDiff]; first | done | rfl | assumption) | simp [put_at, *]), (by first | rfl | (simp only [put_at, ↓reduceIte, Nat.reduceEqDiff]; first | done | rfl | assumption) | simp [put_at, *])⟩
  · rintro fr C ⟨hc, hO, f0, f1, f5⟩ N
    have g0 : decide ((ts.length : Int) < (ts.length : Int)) = false := by simp
    rw [List.take_length] at f1
    rw [List.take_length, List.drop_length, List.append_nil] at hO
    repeat' (first | simp -implicitDefEqProofs only [zG1,zG2,zG3,zG4,zG5,zG6,zG7,eq_self,resV,rval,X.val,binv,fillL,setR,↓reduceIte,Nat.reduceEqDiff,Nat.reduceAdd,Nat.reduceMul,Nat.reduceLeDiff,Nat.reduceLT,Nat.reduceSub,reduceCtorEq,zGq, f0, f1, f5, g0] | ((with_reducible refine rows_intro (fun _ hb => ?_)); try simp only [set_none, ne_eq] at hb) | ((with_reducible refine new_intro (fun _ hb => ?_)); try simp only [set_none, ne_eq] at hb) | (with_reducible refine draw_same ?_) | ((with_reducible refine gd_split ?_ (fun _ => ?_) (fun _ => ?_)); exact rfl) | ((with_reducible refine td_split ?_ (fun _ => ?_) (fun _ => ?_)); exact rfl) | (with_reducible refine c_split (fun _ => ?_) (fun _ => ?_)))
    exact ret_same (h C hc hO)
theorem markBoxS_op (A : Option Addr) (m c : Nat) (ts : Prs) (bs : List Nat) (k0 : Int) (hR : OP H 179 1 0 (.slice A m c) ts bs) (hn : ts.length ≤ 1048576) (hL : sumP ts ≤ 1048576) (h0 : 0 ≤ k0) (h1 : k0 ≤ 1099511627776)
    (h : ∀ C, Chg H C bs → OP C 179 1 0 (.slice A m c) (mkBx k0 ts) bs → K (.int .i64 (k0 + sumP ts + ts.length)) C) : ACalls Try.prog w0 104 [.slice A m c, .int .i64 k0] H K := by
  have em := hR.fp.2
  subst em
  refine acalls_of_sx mix Try.func104 of104 (by simp [ir104]) ?_; rw [ir104]; (try delta qT qI qC qO qM qG)
  repeat' (first | simp -implicitDefEqProofs only [zG1,zG2,zG3,zG4,zG5,zG6,zG7,eq_self,resV,rval,X.val,binv,fillL,setR,↓reduceIte,Nat.reduceEqDiff,Nat.reduceAdd,Nat.reduceMul,Nat.reduceLeDiff,Nat.reduceLT,Nat.reduceSub,reduceCtorEq,zGq] | ((with_reducible refine rows_intro (fun _ hb => ?_)); try simp only [set_none, ne_eq] at hb) | ((with_reducible refine new_intro (fun _ hb => ?_)); try simp only [set_none, ne_eq] at hb) | (with_reducible refine draw_same ?_) | ((with_reducible refine gd_split ?_ (fun _ => ?_) (fun _ => ?_)); exact rfl) | ((with_reducible refine td_split ?_ (fun _ => ?_) (fun _ => ?_)); exact rfl) | (with_reducible refine c_split (fun _ => ?_) (fun _ => ?_)))
  refine for_rule ts.length (fun i fr C => Chg H C bs ∧ OP C 179 1 0 (.slice A ts.length c) (mkBx k0 (ts.take i) ++ ts.drop i) bs ∧ fr 0 = .slice A ts.length c ∧ fr 1 = .int .i64 (k0 + sumP (ts.take i) + i) ∧ fr 5 = .int .i64 i)
    ⟨Chg.refl _ _, by simpa [mkBx] using hR, (by first | rfl | (simp only [put_at, ↓reduceIte, Nat.reduceEqDiff]; first | done | rfl | assumption) | simp [put_at, *]), (show Value.int .i64 k0 = .int .i64 (k0 + (sumP (ts.take 0) : Int) + ((0 : Nat) : Int)) by simp [sumP]), (by first | rfl | (simp only [put_at, ↓reduceIte, Nat.reduceEqDiff]; first | done | rfl | assumption) | simp [put_at, *])⟩ ?_ ?_
  · rintro i fr C hi ⟨hc, hO, f0, f1, f5⟩ N hN
    have g0 := lt_dec hi
    have g1 := rng hi
    have g3 := up1 hi (by omega)
    have hs1 := sumP_step hi
    have hs2 := sumP_le ts (i + 1)
    have ha : (mkBx k0 (ts.take i)).length = i := by rw [mkBx_len, List.length_take]; omega
    have hil : i < (mkBx k0 (ts.take i) ++ ts.drop i).length := by rw [List.length_append, List.length_drop]; omega
    obtain ⟨gA, -⟩ := hO.inner hil
    have w1 : IntKind.i64.wrap (k0 + sumP (ts.take i) + i + 1) = k0 + sumP (ts.take i) + i + 1 := wrap_i64 (by omega) (by omega)
    repeat' (first | simp -implicitDefEqProofs only [zG1,zG2,zG3,zG4,zG5,zG6,zG7,eq_self,resV,rval,X.val,binv,fillL,setR,↓reduceIte,Nat.reduceEqDiff,Nat.reduceAdd,Nat.reduceMul,Nat.reduceLeDiff,Nat.reduceLT,Nat.reduceSub,reduceCtorEq,zGq, f0, f1, f5, g0, g1, gA, Nat.add_zero] | ((with_reducible refine rows_intro (fun _ hb => ?_)); try simp only [set_none, ne_eq] at hb) | ((with_reducible refine new_intro (fun _ hb => ?_)); try simp only [set_none, ne_eq] at hb) | (with_reducible refine draw_same ?_) | ((with_reducible refine gd_split ?_ (fun _ => ?_) (fun _ => ?_)); exact rfl) | ((with_reducible refine td_split ?_ (fun _ => ?_) (fun _ => ?_)); exact rfl) | (with_reducible refine c_split (fun _ => ?_) (fun _ => ?_)))
    have O1k : ∀ (D : Value → AHeap → Prop), (∀ C2, Chg C C2 bs → OP C2 179 1 0 (.slice A ts.length c) ((mkBx k0 (ts.take i) ++ ts.drop i).set i (ts[i].1, k0 + sumP (ts.take i) + i)) bs → D undef C2) → stK 1 (.pointer (adr A (i * 2))) (.int .i64 (k0 + sumP (ts.take i) + i)) D C := fun D hD =>
      hO.num (u := 0) hil (.inr ⟨rfl, rfl⟩) fun C2 hc2 O2 => hD C2 hc2 (by simpa only [mid_at ha hi] using O2)
    refine O1k _ (fun C2 hc2 O2 => ?_)
    have hil' : i < ((mkBx k0 (ts.take i) ++ ts.drop i).set i (ts[i].1, k0 + sumP (ts.take i) + i)).length := by rw [List.length_set]; exact hil
    obtain ⟨-, x, ib, q, rw_, hib, upd⟩ := O2.inner hil'
    simp only [List.getElem_set_self] at rw_ upd
    repeat' (first | simp -implicitDefEqProofs only [zG1,zG2,zG3,zG4,zG5,zG6,zG7,eq_self,resV,rval,X.val,binv,fillL,setR,↓reduceIte,Nat.reduceEqDiff,Nat.reduceAdd,Nat.reduceMul,Nat.reduceLeDiff,Nat.reduceLT,Nat.reduceSub,reduceCtorEq,zGq, f0, f1, f5, g1, gA, q, w1] | ((with_reducible refine rows_intro (fun _ hb => ?_)); try simp only [set_none, ne_eq] at hb) | ((with_reducible refine new_intro (fun _ hb => ?_)); try simp only [set_none, ne_eq] at hb) | (with_reducible refine draw_same ?_) | ((with_reducible refine gd_split ?_ (fun _ => ?_) (fun _ => ?_)); exact rfl) | ((with_reducible refine td_split ?_ (fun _ => ?_) (fun _ => ?_)); exact rfl) | (with_reducible refine c_split (fun _ => ?_) (fun _ => ?_)))
    refine markIntS_rw w0 _ _ rw_ (by omega) _ (by omega) (by omega) (fun C3 hc3 r3 => ?_)
    have O3 := upd C3 _ (marks_len _ _) hc3 r3
    rw [List.set_set, mid_set ha hi, ← mkBx_take hi] at O3
    have w2 : k0 + (sumP (ts.take i) : Int) + i + 1 + ts[i].1.length = k0 + (sumP (ts.take (i + 1)) : Int) + ((i + 1 : Nat) : Int) := by omega
    repeat' (first | simp -implicitDefEqProofs only [zG1,zG2,zG3,zG4,zG5,zG6,zG7,eq_self,resV,rval,X.val,binv,fillL,setR,↓reduceIte,Nat.reduceEqDiff,Nat.reduceAdd,Nat.reduceMul,Nat.reduceLeDiff,Nat.reduceLT,Nat.reduceSub,reduceCtorEq,zGq, f0, f1, f5, g3, w2] | ((with_reducible refine rows_intro (fun _ hb => ?_)); try simp only [set_none, ne_eq] at hb) | ((with_reducible refine new_intro (fun _ hb => ?_)); try simp only [set_none, ne_eq] at hb) | (with_reducible refine draw_same ?_) | ((with_reducible refine gd_split ?_ (fun _ => ?_) (fun _ => ?_)); exact rfl) | ((with_reducible refine td_split ?_ (fun _ => ?_) (fun _ => ?_)); exact rfl) | (with_reducible refine c_split (fun _ => ?_) (fun _ => ?_)))
    exact hN _ _ _ (.refl _) ⟨hc.trans (hc2.trans (hc3.mono hib)), O3, (by first | rfl | (simp only [put_at, ↓reduceIte, Nat.reduceEqDiff]; first | done | rfl | assumption) | simp [put_at, *]), (by first | rfl | (simp only [put_at, ↓reduceIte, Nat.reduceEqDiff]; first | done | rfl | assumption) | simp [put_at, *]), (by first | rfl | (simp only [put_at, ↓reduceIte, Nat.reduceEqDiff]; first | done | rfl | assumption) | simp [put_at, *])⟩
  · rintro fr C ⟨hc, hO, f0, f1, f5⟩ N
    have g0 : decide ((ts.length : Int) < (ts.length : Int)) = false := by simp
    rw [List.take_length] at f1
    rw [List.take_length, List.drop_length, List.append_nil] at hO
    repeat' (first | simp -implicitDefEqProofs only [zG1,zG2,zG3,zG4,zG5,zG6,zG7,eq_self,resV,rval,X.val,binv,fillL,setR,↓reduceIte,Nat.reduceEqDiff,Nat.reduceAdd,Nat.reduceMul,Nat.reduceLeDiff,Nat.reduceLT,Nat.reduceSub,reduceCtorEq,zGq, f0, f1, f5, g0] | ((with_reducible refine rows_intro (fun _ hb => ?_)); try simp only [set_none, ne_eq] at hb) | ((with_reducible refine new_intro (fun _ hb => ?_)); try simp only [set_none, ne_eq] at hb) | (with_reducible refine draw_same ?_) | ((with_reducible refine gd_split ?_ (fun _ => ?_) (fun _ => ?_)); exact rfl) | ((with_reducible refine td_split ?_ (fun _ => ?_) (fun _ => ?_)); exact rfl) | (with_reducible refine c_split (fun _ => ?_) (fun _ => ?_)))
    exact ret_same (h C hc hO)
theorem heldThreadS_ok (A : Option Addr) (c : Nat) (ts : Prs) (k0 : Int) (hx : FP H A 0 1 (mkTh k0 ts)) (hn : ts.length ≤ 1048576) (hL : sumP ts ≤ 1048576) (h0 : 0 ≤ k0) (h1 : k0 ≤ 1099511627776) (h : K (.int .i64 (k0 + sumP ts + ts.length)) H) : ACalls Try.prog w0 105 [.slice A ts.length c, .int .i64 k0] H K := by
  refine acalls_of_sx mix Try.func105 of105 (by simp [ir105]) ?_; rw [ir105]; (try delta qT qI qC qO qM qG)
  repeat' (first | simp -implicitDefEqProofs only [zG1,zG2,zG3,zG4,zG5,zG6,zG7,eq_self,resV,rval,X.val,binv,fillL,setR,↓reduceIte,Nat.reduceEqDiff,Nat.reduceAdd,Nat.reduceMul,Nat.reduceLeDiff,Nat.reduceLT,Nat.reduceSub,reduceCtorEq,zGq] | ((with_reducible refine rows_intro (fun _ hb => ?_)); try simp only [set_none, ne_eq] at hb) | ((with_reducible refine new_intro (fun _ hb => ?_)); try simp only [set_none, ne_eq] at hb) | (with_reducible refine draw_same ?_) | ((with_reducible refine gd_split ?_ (fun _ => ?_) (fun _ => ?_)); exact rfl) | ((with_reducible refine td_split ?_ (fun _ => ?_) (fun _ => ?_)); exact rfl) | (with_reducible refine c_split (fun _ => ?_) (fun _ => ?_)))
  refine for_rule ts.length (fun i fr C => C = H ∧ fr 0 = .slice A ts.length c ∧ fr 1 = .int .i64 (k0 + sumP (ts.take i) + i) ∧ fr 5 = .int .i64 i)
    ⟨rfl, (by first | rfl | (simp only [put_at, ↓reduceIte, Nat.reduceEqDiff]; first | done | rfl | assumption) | simp [put_at, *]), (show Value.int .i64 k0 = .int .i64 (k0 + (sumP (ts.take 0) : Int) + ((0 : Nat) : Int)) by simp [sumP]), (by first | rfl | (simp only [put_at, ↓reduceIte, Nat.reduceEqDiff]; first | done | rfl | assumption) | simp [put_at, *])⟩ ?_ ?_
  · rintro i fr C hi ⟨rfl, f0, f1, f5⟩ N hN
    have g0 := lt_dec hi
    have g1 := rng hi
    have g3 := up1 hi (by omega)
    have hs1 := sumP_step hi
    have hs2 := sumP_le ts (i + 1)
    have hil : i < (mkTh k0 ts).length := by rw [mkTh_len]; exact hi
    obtain ⟨gA, A', c', q1, q2, fl⟩ := hx i hil
    rw [mkTh_at hi] at q1 q2 fl
    rw [Nat.add_zero, marks_len] at q1
    have w1 : IntKind.i64.wrap (k0 + sumP (ts.take i) + i + ts[i].1.length + 1) = k0 + (sumP (ts.take (i + 1)) : Int) + ((i + 1 : Nat) : Int) := by
      rw [wrap_i64 (by omega) (by omega)]; omega
    have d1 : decide (k0 + sumP (ts.take i) + i + ts[i].1.length < 0) = false := by simp; omega
    repeat' (first | simp -implicitDefEqProofs only [zG1,zG2,zG3,zG4,zG5,zG6,zG7,eq_self,resV,rval,X.val,binv,fillL,setR,↓reduceIte,Nat.reduceEqDiff,Nat.reduceAdd,Nat.reduceMul,Nat.reduceLeDiff,Nat.reduceLT,Nat.reduceSub,reduceCtorEq,zGq, f0, f1, f5, g0, g1, g3, gA, q1, q2, w1, d1, Nat.add_zero, bne_self_eq_false] | ((with_reducible refine rows_intro (fun _ hb => ?_)); try simp only [set_none, ne_eq] at hb) | ((with_reducible refine new_intro (fun _ hb => ?_)); try simp only [set_none, ne_eq] at hb) | (with_reducible refine draw_same ?_) | ((with_reducible refine gd_split ?_ (fun _ => ?_) (fun _ => ?_)); exact rfl) | ((with_reducible refine td_split ?_ (fun _ => ?_) (fun _ => ?_)); exact rfl) | (with_reducible refine c_split (fun _ => ?_) (fun _ => ?_)) | (with_reducible refine heldIntS_ok _ _ _ A' _ c' _ fl (by omega) (by omega) (by omega) ?_))
    exact hN _ _ _ (.refl _) ⟨rfl, (by first | rfl | (simp only [put_at, ↓reduceIte, Nat.reduceEqDiff]; first | done | rfl | assumption) | simp [put_at, *]), (by first | rfl | (simp only [put_at, ↓reduceIte, Nat.reduceEqDiff]; first | done | rfl | assumption) | simp [put_at, *]), (by first | rfl | (simp only [put_at, ↓reduceIte, Nat.reduceEqDiff]; first | done | rfl | assumption) | simp [put_at, *])⟩
  · rintro fr C ⟨rfl, f0, f1, f5⟩ N
    have g0 : decide ((ts.length : Int) < (ts.length : Int)) = false := by simp
    rw [List.take_length] at f1
    repeat' (first | simp -implicitDefEqProofs only [zG1,zG2,zG3,zG4,zG5,zG6,zG7,eq_self,resV,rval,X.val,binv,fillL,setR,↓reduceIte,Nat.reduceEqDiff,Nat.reduceAdd,Nat.reduceMul,Nat.reduceLeDiff,Nat.reduceLT,Nat.reduceSub,reduceCtorEq,zGq, f0, f1, f5, g0] | ((with_reducible refine rows_intro (fun _ hb => ?_)); try simp only [set_none, ne_eq] at hb) | ((with_reducible refine new_intro (fun _ hb => ?_)); try simp only [set_none, ne_eq] at hb) | (with_reducible refine draw_same ?_) | ((with_reducible refine gd_split ?_ (fun _ => ?_) (fun _ => ?_)); exact rfl) | ((with_reducible refine td_split ?_ (fun _ => ?_) (fun _ => ?_)); exact rfl) | (with_reducible refine c_split (fun _ => ?_) (fun _ => ?_)))
    exact ret_same h
theorem heldBoxS_ok (A : Option Addr) (c : Nat) (ts : Prs) (k0 : Int) (hx : FP H A 1 0 (mkBx k0 ts)) (hn : ts.length ≤ 1048576) (hL : sumP ts ≤ 1048576) (h0 : 0 ≤ k0) (h1 : k0 ≤ 1099511627776) (h : K (.int .i64 (k0 + sumP ts + ts.length)) H) : ACalls Try.prog w0 106 [.slice A ts.length c, .int .i64 k0] H K := by
  refine acalls_of_sx mix Try.func106 of106 (by simp [ir106]) ?_; rw [ir106]; (try delta qT qI qC qO qM qG)
  repeat' (first | simp -implicitDefEqProofs only [zG1,zG2,zG3,zG4,zG5,zG6,zG7,eq_self,resV,rval,X.val,binv,fillL,setR,↓reduceIte,Nat.reduceEqDiff,Nat.reduceAdd,Nat.reduceMul,Nat.reduceLeDiff,Nat.reduceLT,Nat.reduceSub,reduceCtorEq,zGq] | ((with_reducible refine rows_intro (fun _ hb => ?_)); try simp only [set_none, ne_eq] at hb) | ((with_reducible refine new_intro (fun _ hb => ?_)); try simp only [set_none, ne_eq] at hb) | (with_reducible refine draw_same ?_) | ((with_reducible refine gd_split ?_ (fun _ => ?_) (fun _ => ?_)); exact rfl) | ((with_reducible refine td_split ?_ (fun _ => ?_) (fun _ => ?_)); exact rfl) | (with_reducible refine c_split (fun _ => ?_) (fun _ => ?_)))
  refine for_rule ts.length (fun i fr C => C = H ∧ fr 0 = .slice A ts.length c ∧ fr 1 = .int .i64 (k0 + sumP (ts.take i) + i) ∧ fr 5 = .int .i64 i)
    ⟨rfl, (by first | rfl | (simp only [put_at, ↓reduceIte, Nat.reduceEqDiff]; first | done | rfl | assumption) | simp [put_at, *]), (show Value.int .i64 k0 = .int .i64 (k0 + (sumP (ts.take 0) : Int) + ((0 : Nat) : Int)) by simp [sumP]), (by first | rfl | (simp only [put_at, ↓reduceIte, Nat.reduceEqDiff]; first | done | rfl | assumption) | simp [put_at, *])⟩ ?_ ?_
  · rintro i fr C hi ⟨rfl, f0, f1, f5⟩ N hN
    have g0 := lt_dec hi
    have g1 := rng hi
    have g3 := up1 hi (by omega)
    have hs1 := sumP_step hi
    have hs2 := sumP_le ts (i + 1)
    have hil : i < (mkBx k0 ts).length := by rw [mkBx_len]; exact hi
    obtain ⟨gA, A', c', q1, q2, fl⟩ := hx i hil
    rw [mkBx_at hi] at q1 q2 fl
    rw [marks_len] at q1
    rw [Nat.add_zero] at q2
    have w1 : IntKind.i64.wrap (k0 + sumP (ts.take i) + i + 1) = k0 + sumP (ts.take i) + i + 1 := wrap_i64 (by omega) (by omega)
    have w2 : k0 + (sumP (ts.take i) : Int) + i + 1 + ts[i].1.length = k0 + (sumP (ts.take (i + 1)) : Int) + ((i + 1 : Nat) : Int) := by omega
    have d1 : decide (k0 + (sumP (ts.take (i + 1)) : Int) + ((i + 1 : Nat) : Int) < 0) = false := by simp; omega
    repeat' (first | simp -implicitDefEqProofs only [zG1,zG2,zG3,zG4,zG5,zG6,zG7,eq_self,resV,rval,X.val,binv,fillL,setR,↓reduceIte,Nat.reduceEqDiff,Nat.reduceAdd,Nat.reduceMul,Nat.reduceLeDiff,Nat.reduceLT,Nat.reduceSub,reduceCtorEq,zGq, f0, f1, f5, g0, g1, g3, gA, q1, q2, w1, w2, d1, Nat.add_zero, bne_self_eq_false] | ((with_reducible refine rows_intro (fun _ hb => ?_)); try simp only [set_none, ne_eq] at hb) | ((with_reducible refine new_intro (fun _ hb => ?_)); try simp only [set_none, ne_eq] at hb) | (with_reducible refine draw_same ?_) | ((with_reducible refine gd_split ?_ (fun _ => ?_) (fun _ => ?_)); exact rfl) | ((with_reducible refine td_split ?_ (fun _ => ?_) (fun _ => ?_)); exact rfl) | (with_reducible refine c_split (fun _ => ?_) (fun _ => ?_)) | (with_reducible refine heldIntS_ok _ _ _ A' _ c' _ fl (by omega) (by omega) (by omega) ?_))
    exact hN _ _ _ (.refl _) ⟨rfl, (by first | rfl | (simp only [put_at, ↓reduceIte, Nat.reduceEqDiff]; first | done | rfl | assumption) | simp [put_at, *]), (by first | rfl | (simp only [put_at, ↓reduceIte, Nat.reduceEqDiff]; first | done | rfl | assumption) | simp [put_at, *]), (by first | rfl | (simp only [put_at, ↓reduceIte, Nat.reduceEqDiff]; first | done | rfl | assumption) | simp [put_at, *])⟩
  · rintro fr C ⟨rfl, f0, f1, f5⟩ N
    have g0 : decide ((ts.length : Int) < (ts.length : Int)) = false := by simp
    rw [List.take_length] at f1
    repeat' (first | simp -implicitDefEqProofs only [zG1,zG2,zG3,zG4,zG5,zG6,zG7,eq_self,resV,rval,X.val,binv,fillL,setR,↓reduceIte,Nat.reduceEqDiff,Nat.reduceAdd,Nat.reduceMul,Nat.reduceLeDiff,Nat.reduceLT,Nat.reduceSub,reduceCtorEq,zGq, f0, f1, f5, g0] | ((with_reducible refine rows_intro (fun _ hb => ?_)); try simp only [set_none, ne_eq] at hb) | ((with_reducible refine new_intro (fun _ hb => ?_)); try simp only [set_none, ne_eq] at hb) | (with_reducible refine draw_same ?_) | ((with_reducible refine gd_split ?_ (fun _ => ?_) (fun _ => ?_)); exact rfl) | ((with_reducible refine td_split ?_ (fun _ => ?_) (fun _ => ?_)); exact rfl) | (with_reducible refine c_split (fun _ => ?_) (fun _ => ?_)))
    exact ret_same h
end
end Go.Proofs.Ytfjhjfddgdokgaa
