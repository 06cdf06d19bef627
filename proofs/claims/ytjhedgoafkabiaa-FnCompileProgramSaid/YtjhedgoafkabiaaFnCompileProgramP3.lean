/- The statement FnCompileProgram holds for all arguments; part 3 of the texts that show it. No further condition. -/
import Derived.Test.YtjhedgoafkabiaaFnCompileProgramP2
namespace Go.Proofs.Ytjhedgoafkabiaa
set_option linter.all false
open Go Go.RowKit
set_option maxRecDepth 100000
variable (w0 : World)
theorem inRange_ok (H : AHeap) (K : Value → AHeap → Prop) (n l : Int) (u : Bool) (h : K (.bool (n == 0 || (u && decide (0 < n) && decide (n < l)))) H) : ACalls Try.prog w0 97 [.int .i64 n, .int .i64 l, .bool u] H K := by
  cases u
  all_goals
    refine acalls_of_sx mix Try.func97 of97 (by simp [ir97]) ?_; rw [ir97]; (try delta qT qI qC qO qM qG)
    repeat' (first | simp -implicitDefEqProofs only [zG1,zG2,zG3,zG4,zG5,zG6,zG7,eq_self,resV,rval,X.val,binv,fillL,setR,↓reduceIte,Nat.reduceEqDiff,Nat.reduceAdd,Nat.reduceMul,Nat.reduceLeDiff,Nat.reduceLT,Nat.reduceSub,reduceCtorEq,zGr] | ((with_reducible refine rows_intro (fun _ hb => ?_)); try simp only [set_none, ne_eq] at hb) | ((with_reducible refine new_intro (fun _ hb => ?_)); try simp only [set_none, ne_eq] at hb) | (with_reducible refine draw_same ?_) | ((with_reducible refine gd_split ?_ (fun _ => ?_) (fun _ => ?_)); exact rfl) | ((with_reducible refine td_split ?_ (fun _ => ?_) (fun _ => ?_)); exact rfl) | (with_reducible refine c_split (fun _ => ?_) (fun _ => ?_)))
    all_goals (refine ret_same (kb h ?_))
    all_goals (try simp only [beq_iff_eq, beq_eq_false_iff_ne, bne_iff_ne, bne_eq_false_iff_eq, decide_eq_true_eq, decide_eq_false_iff_not, ne_eq, Bool.not_eq_true, Bool.not_eq_false, Bool.not_eq_eq_eq_not, Bool.not_true, Bool.not_false, Int.not_lt, Int.not_le, ge_iff_le, gt_iff_lt] at *)
    all_goals (rw [Bool.eq_iff_iff]; simp_all <;> omega)
def stmtV (s : St) : Bool := if s.kind = 2 ∨ s.kind = 3 then stBlock s else stSimple s
theorem stmtC1 (H : AHeap) (K : Value → AHeap → Prop) (v b : Int) (e : Ex) (n1 n2 : Nat) (A : Option Addr) (o : Nat) (A0 : Option Addr) (c0 : Nat) (A1 : Option Addr) (c1 : Nat) (A2 : Option Addr) (c2 : Nat) (hA : A.isSome = true)
    (hp : Pl8 H A o 1 v b e n1 n2 A0 c0 A1 c1 A2 c2) (hE : ExV H e [.int .i64 e.op, .int .i64 e.n, .slice A0 e.args.length c0]) (h : K (.bool ((((n1 : Nat) : Int) == 0) && (((n2 : Nat) : Int) == 0) && (decide (0 ≤ v) && decide (v ≤ 3) && b == 0 && exprOk 5 e))) H) :
    ACalls Try.prog w0 86 [.pointer (adr A o), .int .i64 3] H K := by
  refine acalls_of_sx mix Try.func86 of86 (by simp [ir86]) ?_; rw [ir86]; (try delta qT qI qC qO qM qG)
  repeat' (first | simp -implicitDefEqProofs only [zG1,zG2,zG3,zG4,zG5,zG6,zG7,eq_self,resV,rval,X.val,binv,fillL,setR,↓reduceIte,Nat.reduceEqDiff,Nat.reduceAdd,Nat.reduceMul,Nat.reduceLeDiff,Nat.reduceLT,Nat.reduceSub,reduceCtorEq,zGr, hp, hA, Int.reduceBEq, cell_old, *] | ((with_reducible refine rows_intro (fun _ hb => ?_)); try simp only [set_none, ne_eq] at hb) | ((with_reducible refine new_intro (fun _ hb => ?_)); try simp only [set_none, ne_eq] at hb) | (with_reducible refine draw_same ?_) | ((with_reducible refine gd_split ?_ (fun _ => ?_) (fun _ => ?_)); exact rfl) | ((with_reducible refine td_split ?_ (fun _ => ?_) (fun _ => ?_)); exact rfl) | (with_reducible refine c_split (fun _ => ?_) (fun _ => ?_)) | (with_reducible refine inRange_ok _ _ _ _ _ _ ?_) | (with_reducible refine exprValid5_ok _ _ _ e A0 c0 (hE.le ((AHeap.le.refl H).fresh ‹H _ = none› _)) ?_))
  all_goals refine ⟨H, (AHeap.le.refl H).fresh ‹H _ = none› _, kb h ?_⟩
  all_goals clear hp hE h
  all_goals (try simp only [beq_iff_eq, beq_eq_false_iff_ne, bne_iff_ne, bne_eq_false_iff_eq, decide_eq_true_eq, decide_eq_false_iff_not, ne_eq, Bool.not_eq_true, Bool.not_eq_false, Bool.not_eq_eq_eq_not, Bool.not_true, Bool.not_false, Int.not_lt, Int.not_le, ge_iff_le, gt_iff_lt] at *)
  all_goals grind
theorem stmtC2 (H : AHeap) (K : Value → AHeap → Prop) (v b : Int) (e : Ex) (n1 n2 : Nat) (A : Option Addr) (o : Nat) (A0 : Option Addr) (c0 : Nat) (A1 : Option Addr) (c1 : Nat) (A2 : Option Addr) (c2 : Nat) (hA : A.isSome = true)
    (hp : Pl8 H A o 2 v b e n1 n2 A0 c0 A1 c1 A2 c2) (hE : ExV H e [.int .i64 e.op, .int .i64 e.n, .slice A0 e.args.length c0]) (h : K (.bool (v == 0 && b == 0 && exprOk 5 e)) H) :
    ACalls Try.prog w0 86 [.pointer (adr A o), .int .i64 3] H K := by
  refine acalls_of_sx mix Try.func86 of86 (by simp [ir86]) ?_; rw [ir86]; (try delta qT qI qC qO qM qG)
  repeat' (first | simp -implicitDefEqProofs only [zG1,zG2,zG3,zG4,zG5,zG6,zG7,eq_self,resV,rval,X.val,binv,fillL,setR,↓reduceIte,Nat.reduceEqDiff,Nat.reduceAdd,Nat.reduceMul,Nat.reduceLeDiff,Nat.reduceLT,Nat.reduceSub,reduceCtorEq,zGr, hp, hA, Int.reduceBEq, cell_old, *] | ((with_reducible refine rows_intro (fun _ hb => ?_)); try simp only [set_none, ne_eq] at hb) | ((with_reducible refine new_intro (fun _ hb => ?_)); try simp only [set_none, ne_eq] at hb) | (with_reducible refine draw_same ?_) | ((with_reducible refine gd_split ?_ (fun _ => ?_) (fun _ => ?_)); exact rfl) | ((with_reducible refine td_split ?_ (fun _ => ?_) (fun _ => ?_)); exact rfl) | (with_reducible refine c_split (fun _ => ?_) (fun _ => ?_)) | (with_reducible refine inRange_ok _ _ _ _ _ _ ?_) | (with_reducible refine exprValid5_ok _ _ _ e A0 c0 (hE.le ((AHeap.le.refl H).fresh ‹H _ = none› _)) ?_))
  all_goals refine ⟨H, (AHeap.le.refl H).fresh ‹H _ = none› _, kb h ?_⟩
  all_goals clear hp hE h
  all_goals (try simp only [beq_iff_eq, beq_eq_false_iff_ne, bne_iff_ne, bne_eq_false_iff_eq, decide_eq_true_eq, decide_eq_false_iff_not, ne_eq, Bool.not_eq_true, Bool.not_eq_false, Bool.not_eq_eq_eq_not, Bool.not_true, Bool.not_false, Int.not_lt, Int.not_le, ge_iff_le, gt_iff_lt] at *)
  all_goals grind
theorem stmtC3 (H : AHeap) (K : Value → AHeap → Prop) (v b : Int) (e : Ex) (n1 n2 : Nat) (A : Option Addr) (o : Nat) (A0 : Option Addr) (c0 : Nat) (A1 : Option Addr) (c1 : Nat) (A2 : Option Addr) (c2 : Nat) (hA : A.isSome = true)
    (hp : Pl8 H A o 3 v b e n1 n2 A0 c0 A1 c1 A2 c2) (hE : ExV H e [.int .i64 e.op, .int .i64 e.n, .slice A0 e.args.length c0]) (h : K (.bool (v == 0 && b == 0 && exprOk 5 e && (((n2 : Nat) : Int) == 0))) H) :
    ACalls Try.prog w0 86 [.pointer (adr A o), .int .i64 3] H K := by
  refine acalls_of_sx mix Try.func86 of86 (by simp [ir86]) ?_; rw [ir86]; (try delta qT qI qC qO qM qG)
  repeat' (first | simp -implicitDefEqProofs only [zG1,zG2,zG3,zG4,zG5,zG6,zG7,eq_self,resV,rval,X.val,binv,fillL,setR,↓reduceIte,Nat.reduceEqDiff,Nat.reduceAdd,Nat.reduceMul,Nat.reduceLeDiff,Nat.reduceLT,Nat.reduceSub,reduceCtorEq,zGr, hp, hA, Int.reduceBEq, cell_old, *] | ((with_reducible refine rows_intro (fun _ hb => ?_)); try simp only [set_none, ne_eq] at hb) | ((with_reducible refine new_intro (fun _ hb => ?_)); try simp only [set_none, ne_eq] at hb) | (with_reducible refine draw_same ?_) | ((with_reducible refine gd_split ?_ (fun _ => ?_) (fun _ => ?_)); exact rfl) | ((with_reducible refine td_split ?_ (fun _ => ?_) (fun _ => ?_)); exact rfl) | (with_reducible refine c_split (fun _ => ?_) (fun _ => ?_)) | (with_reducible refine inRange_ok _ _ _ _ _ _ ?_) | (with_reducible refine exprValid5_ok _ _ _ e A0 c0 (hE.le ((AHeap.le.refl H).fresh ‹H _ = none› _)) ?_))
  all_goals refine ⟨H, (AHeap.le.refl H).fresh ‹H _ = none› _, kb h ?_⟩
  all_goals clear hp hE h
  all_goals (try simp only [beq_iff_eq, beq_eq_false_iff_ne, bne_iff_ne, bne_eq_false_iff_eq, decide_eq_true_eq, decide_eq_false_iff_not, ne_eq, Bool.not_eq_true, Bool.not_eq_false, Bool.not_eq_eq_eq_not, Bool.not_true, Bool.not_false, Int.not_lt, Int.not_le, ge_iff_le, gt_iff_lt] at *)
  all_goals grind
theorem stmtC4 (H : AHeap) (K : Value → AHeap → Prop) (v b : Int) (e : Ex) (n1 n2 : Nat) (A : Option Addr) (o : Nat) (A0 : Option Addr) (c0 : Nat) (A1 : Option Addr) (c1 : Nat) (A2 : Option Addr) (c2 : Nat) (hA : A.isSome = true)
    (hp : Pl8 H A o 4 v b e n1 n2 A0 c0 A1 c1 A2 c2) (hE : ExV H e [.int .i64 e.op, .int .i64 e.n, .slice A0 e.args.length c0]) (h : K (.bool ((((n1 : Nat) : Int) == 0) && (((n2 : Nat) : Int) == 0) && (v == 0 && decide (0 ≤ b) && decide (b ≤ 2) && exprOk 5 e))) H) :
    ACalls Try.prog w0 86 [.pointer (adr A o), .int .i64 3] H K := by
  refine acalls_of_sx mix Try.func86 of86 (by simp [ir86]) ?_; rw [ir86]; (try delta qT qI qC qO qM qG)
  repeat' (first | simp -implicitDefEqProofs only [zG1,zG2,zG3,zG4,zG5,zG6,zG7,eq_self,resV,rval,X.val,binv,fillL,setR,↓reduceIte,Nat.reduceEqDiff,Nat.reduceAdd,Nat.reduceMul,Nat.reduceLeDiff,Nat.reduceLT,Nat.reduceSub,reduceCtorEq,zGr, hp, hA, Int.reduceBEq, cell_old, *] | ((with_reducible refine rows_intro (fun _ hb => ?_)); try simp only [set_none, ne_eq] at hb) | ((with_reducible refine new_intro (fun _ hb => ?_)); try simp only [set_none, ne_eq] at hb) | (with_reducible refine draw_same ?_) | ((with_reducible refine gd_split ?_ (fun _ => ?_) (fun _ => ?_)); exact rfl) | ((with_reducible refine td_split ?_ (fun _ => ?_) (fun _ => ?_)); exact rfl) | (with_reducible refine c_split (fun _ => ?_) (fun _ => ?_)) | (with_reducible refine inRange_ok _ _ _ _ _ _ ?_) | (with_reducible refine exprValid5_ok _ _ _ e A0 c0 (hE.le ((AHeap.le.refl H).fresh ‹H _ = none› _)) ?_))
  all_goals refine ⟨H, (AHeap.le.refl H).fresh ‹H _ = none› _, kb h ?_⟩
  all_goals clear hp hE h
  all_goals (try simp only [beq_iff_eq, beq_eq_false_iff_ne, bne_iff_ne, bne_eq_false_iff_eq, decide_eq_true_eq, decide_eq_false_iff_not, ne_eq, Bool.not_eq_true, Bool.not_eq_false, Bool.not_eq_eq_eq_not, Bool.not_true, Bool.not_false, Int.not_lt, Int.not_le, ge_iff_le, gt_iff_lt] at *)
  all_goals grind
theorem stmtC5 (H : AHeap) (K : Value → AHeap → Prop) (v b : Int) (e : Ex) (n1 n2 : Nat) (A : Option Addr) (o : Nat) (A0 : Option Addr) (c0 : Nat) (A1 : Option Addr) (c1 : Nat) (A2 : Option Addr) (c2 : Nat) (hA : A.isSome = true)
    (hp : Pl8 H A o 5 v b e n1 n2 A0 c0 A1 c1 A2 c2) (hE : ExV H e [.int .i64 e.op, .int .i64 e.n, .slice A0 e.args.length c0]) (h : K (.bool ((((n1 : Nat) : Int) == 0) && (((n2 : Nat) : Int) == 0) && (decide (0 ≤ v) && decide (v ≤ 3) && decide (0 ≤ b) && decide (b ≤ 2) && ((e.op == 0) && (e.n == 0) && (((e.args.length : Nat) : Int) == 0))))) H) :
    ACalls Try.prog w0 86 [.pointer (adr A o), .int .i64 3] H K := by
  refine acalls_of_sx mix Try.func86 of86 (by simp [ir86]) ?_; rw [ir86]; (try delta qT qI qC qO qM qG)
  repeat' (first | simp -implicitDefEqProofs only [zG1,zG2,zG3,zG4,zG5,zG6,zG7,eq_self,resV,rval,X.val,binv,fillL,setR,↓reduceIte,Nat.reduceEqDiff,Nat.reduceAdd,Nat.reduceMul,Nat.reduceLeDiff,Nat.reduceLT,Nat.reduceSub,reduceCtorEq,zGr, hp, hA, Int.reduceBEq, cell_old, *] | ((with_reducible refine rows_intro (fun _ hb => ?_)); try simp only [set_none, ne_eq] at hb) | ((with_reducible refine new_intro (fun _ hb => ?_)); try simp only [set_none, ne_eq] at hb) | (with_reducible refine draw_same ?_) | ((with_reducible refine gd_split ?_ (fun _ => ?_) (fun _ => ?_)); exact rfl) | ((with_reducible refine td_split ?_ (fun _ => ?_) (fun _ => ?_)); exact rfl) | (with_reducible refine c_split (fun _ => ?_) (fun _ => ?_)) | (with_reducible refine inRange_ok _ _ _ _ _ _ ?_) | (with_reducible refine exprValid5_ok _ _ _ e A0 c0 (hE.le ((AHeap.le.refl H).fresh ‹H _ = none› _)) ?_))
  all_goals refine ⟨H, (AHeap.le.refl H).fresh ‹H _ = none› _, kb h ?_⟩
  all_goals clear hp hE h
  all_goals (try simp only [beq_iff_eq, beq_eq_false_iff_ne, bne_iff_ne, bne_eq_false_iff_eq, decide_eq_true_eq, decide_eq_false_iff_not, ne_eq, Bool.not_eq_true, Bool.not_eq_false, Bool.not_eq_eq_eq_not, Bool.not_true, Bool.not_false, Int.not_lt, Int.not_le, ge_iff_le, gt_iff_lt] at *)
  all_goals grind
theorem stmtC6 (H : AHeap) (K : Value → AHeap → Prop) (v b : Int) (e : Ex) (n1 n2 : Nat) (A : Option Addr) (o : Nat) (A0 : Option Addr) (c0 : Nat) (A1 : Option Addr) (c1 : Nat) (A2 : Option Addr) (c2 : Nat) (hA : A.isSome = true)
    (hp : Pl8 H A o 6 v b e n1 n2 A0 c0 A1 c1 A2 c2) (hE : ExV H e [.int .i64 e.op, .int .i64 e.n, .slice A0 e.args.length c0]) (h : K (.bool ((((n1 : Nat) : Int) == 0) && (((n2 : Nat) : Int) == 0) && (v == 0 && b == 0 && ((e.op == 0) && (e.n == 0) && (((e.args.length : Nat) : Int) == 0))))) H) :
    ACalls Try.prog w0 86 [.pointer (adr A o), .int .i64 3] H K := by
  refine acalls_of_sx mix Try.func86 of86 (by simp [ir86]) ?_; rw [ir86]; (try delta qT qI qC qO qM qG)
  repeat' (first | simp -implicitDefEqProofs only [zG1,zG2,zG3,zG4,zG5,zG6,zG7,eq_self,resV,rval,X.val,binv,fillL,setR,↓reduceIte,Nat.reduceEqDiff,Nat.reduceAdd,Nat.reduceMul,Nat.reduceLeDiff,Nat.reduceLT,Nat.reduceSub,reduceCtorEq,zGr, hp, hA, Int.reduceBEq, cell_old, *] | ((with_reducible refine rows_intro (fun _ hb => ?_)); try simp only [set_none, ne_eq] at hb) | ((with_reducible refine new_intro (fun _ hb => ?_)); try simp only [set_none, ne_eq] at hb) | (with_reducible refine draw_same ?_) | ((with_reducible refine gd_split ?_ (fun _ => ?_) (fun _ => ?_)); exact rfl) | ((with_reducible refine td_split ?_ (fun _ => ?_) (fun _ => ?_)); exact rfl) | (with_reducible refine c_split (fun _ => ?_) (fun _ => ?_)) | (with_reducible refine inRange_ok _ _ _ _ _ _ ?_) | (with_reducible refine exprValid5_ok _ _ _ e A0 c0 (hE.le ((AHeap.le.refl H).fresh ‹H _ = none› _)) ?_))
  all_goals refine ⟨H, (AHeap.le.refl H).fresh ‹H _ = none› _, kb h ?_⟩
  all_goals clear hp hE h
  all_goals (try simp only [beq_iff_eq, beq_eq_false_iff_ne, bne_iff_ne, bne_eq_false_iff_eq, decide_eq_true_eq, decide_eq_false_iff_not, ne_eq, Bool.not_eq_true, Bool.not_eq_false, Bool.not_eq_eq_eq_not, Bool.not_true, Bool.not_false, Int.not_lt, Int.not_le, ge_iff_le, gt_iff_lt] at *)
  all_goals grind
theorem stmtC7 (H : AHeap) (K : Value → AHeap → Prop) (v b : Int) (e : Ex) (n1 n2 : Nat) (A : Option Addr) (o : Nat) (A0 : Option Addr) (c0 : Nat) (A1 : Option Addr) (c1 : Nat) (A2 : Option Addr) (c2 : Nat) (hA : A.isSome = true)
    (hp : Pl8 H A o 7 v b e n1 n2 A0 c0 A1 c1 A2 c2) (hE : ExV H e [.int .i64 e.op, .int .i64 e.n, .slice A0 e.args.length c0]) (h : K (.bool ((((n1 : Nat) : Int) == 0) && (((n2 : Nat) : Int) == 0) && (v == 0 && b == 0 && exprOk 5 e))) H) :
    ACalls Try.prog w0 86 [.pointer (adr A o), .int .i64 3] H K := by
  refine acalls_of_sx mix Try.func86 of86 (by simp [ir86]) ?_; rw [ir86]; (try delta qT qI qC qO qM qG)
  repeat' (first | simp -implicitDefEqProofs only [zG1,zG2,zG3,zG4,zG5,zG6,zG7,eq_self,resV,rval,X.val,binv,fillL,setR,↓reduceIte,Nat.reduceEqDiff,Nat.reduceAdd,Nat.reduceMul,Nat.reduceLeDiff,Nat.reduceLT,Nat.reduceSub,reduceCtorEq,zGr, hp, hA, Int.reduceBEq, cell_old, *] | ((with_reducible refine rows_intro (fun _ hb => ?_)); try simp only [set_none, ne_eq] at hb) | ((with_reducible refine new_intro (fun _ hb => ?_)); try simp only [set_none, ne_eq] at hb) | (with_reducible refine draw_same ?_) | ((with_reducible refine gd_split ?_ (fun _ => ?_) (fun _ => ?_)); exact rfl) | ((with_reducible refine td_split ?_ (fun _ => ?_) (fun _ => ?_)); exact rfl) | (with_reducible refine c_split (fun _ => ?_) (fun _ => ?_)) | (with_reducible refine inRange_ok _ _ _ _ _ _ ?_) | (with_reducible refine exprValid5_ok _ _ _ e A0 c0 (hE.le ((AHeap.le.refl H).fresh ‹H _ = none› _)) ?_))
  all_goals refine ⟨H, (AHeap.le.refl H).fresh ‹H _ = none› _, kb h ?_⟩
  all_goals clear hp hE h
  all_goals (try simp only [beq_iff_eq, beq_eq_false_iff_ne, bne_iff_ne, bne_eq_false_iff_eq, decide_eq_true_eq, decide_eq_false_iff_not, ne_eq, Bool.not_eq_true, Bool.not_eq_false, Bool.not_eq_eq_eq_not, Bool.not_true, Bool.not_false, Int.not_lt, Int.not_le, ge_iff_le, gt_iff_lt] at *)
  all_goals grind
theorem stmtC0 (H : AHeap) (K : Value → AHeap → Prop) (k : Int) (v b : Int) (e : Ex) (n1 n2 : Nat) (A : Option Addr) (o : Nat) (A0 : Option Addr) (c0 : Nat) (A1 : Option Addr) (c1 : Nat) (A2 : Option Addr) (c2 : Nat) (hA : A.isSome = true)
    (hp : Pl8 H A o k v b e n1 n2 A0 c0 A1 c1 A2 c2) (hE : ExV H e [.int .i64 e.op, .int .i64 e.n, .slice A0 e.args.length c0]) (hk : ¬ k = 1 ∧ ¬ k = 2 ∧ ¬ k = 3 ∧ ¬ k = 4 ∧ ¬ k = 5 ∧ ¬ k = 6 ∧ ¬ k = 7) (h : K (.bool false) H) :
    ACalls Try.prog w0 86 [.pointer (adr A o), .int .i64 3] H K := by
  obtain ⟨k1, k2, k3, k4, k5, k6, k7⟩ := hk
  have e1 : (k == 1) = false := by simp [k1]
  have e2 : (k == 2) = false := by simp [k2]
  have e3 : (k == 3) = false := by simp [k3]
  have e4 : (k == 4) = false := by simp [k4]
  have e5 : (k == 5) = false := by simp [k5]
  have e6 : (k == 6) = false := by simp [k6]
  have e7 : (k == 7) = false := by simp [k7]
  refine acalls_of_sx mix Try.func86 of86 (by simp [ir86]) ?_; rw [ir86]; (try delta qT qI qC qO qM qG)
  repeat' (first | simp -implicitDefEqProofs only [zG1,zG2,zG3,zG4,zG5,zG6,zG7,eq_self,resV,rval,X.val,binv,fillL,setR,↓reduceIte,Nat.reduceEqDiff,Nat.reduceAdd,Nat.reduceMul,Nat.reduceLeDiff,Nat.reduceLT,Nat.reduceSub,reduceCtorEq,zGr, hp, hA, e1, e2, e3, e4, e5, e6, e7, cell_old, *] | ((with_reducible refine rows_intro (fun _ hb => ?_)); try simp only [set_none, ne_eq] at hb) | ((with_reducible refine new_intro (fun _ hb => ?_)); try simp only [set_none, ne_eq] at hb) | (with_reducible refine draw_same ?_) | ((with_reducible refine gd_split ?_ (fun _ => ?_) (fun _ => ?_)); exact rfl) | ((with_reducible refine td_split ?_ (fun _ => ?_) (fun _ => ?_)); exact rfl) | (with_reducible refine c_split (fun _ => ?_) (fun _ => ?_)))
  exact ⟨H, (AHeap.le.refl H).fresh ‹H _ = none› _, h⟩
theorem emp_eq (α : Type) (l : List α) : l.isEmpty = (((l.length : Nat) : Int) == 0) := by
  cases l with
  | nil => rfl
  | cons x xs => simp <;> omega
theorem stmtValid_ok (H : AHeap) (K : Value → AHeap → Prop) (s : St) (A : Option Addr) (o : Nat) (A0 : Option Addr) (c0 : Nat) (A1 : Option Addr) (c1 : Nat) (A2 : Option Addr) (c2 : Nat) (hA : A.isSome = true)
    (hp : Pl8 H A o s.kind s.var s.box s.e s.body.length s.els.length A0 c0 A1 c1 A2 c2) (hE : ExV H s.e [.int .i64 s.e.op, .int .i64 s.e.n, .slice A0 s.e.args.length c0]) (h : K (.bool (stmtV s)) H) :
    ACalls Try.prog w0 86 [.pointer (adr A o), .int .i64 3] H K := by
  have hk : s.kind = 1 ∨ s.kind = 2 ∨ s.kind = 3 ∨ s.kind = 4 ∨ s.kind = 5 ∨ s.kind = 6 ∨ s.kind = 7 ∨ (¬ s.kind = 1 ∧ ¬ s.kind = 2 ∧ ¬ s.kind = 3 ∧ ¬ s.kind = 4 ∧ ¬ s.kind = 5 ∧ ¬ s.kind = 6 ∧ ¬ s.kind = 7) := by omega
  have e1 := emp_eq St s.body
  have e2 := emp_eq St s.els
  have e3 := emp_eq Ex s.e.args
  rcases hk with hk | hk | hk | hk | hk | hk | hk | hk
  · rw [hk] at hp
    refine stmtC1 w0 H K s.var s.box s.e _ _ A o A0 c0 A1 c1 A2 c2 hA hp hE (kb h ?_)
    simp only [stmtV, stBlock, stSimple, plainE, hk, e1, e2, e3]
    simp
  · rw [hk] at hp
    refine stmtC2 w0 H K s.var s.box s.e _ _ A o A0 c0 A1 c1 A2 c2 hA hp hE (kb h ?_)
    simp only [stmtV, stBlock, stSimple, plainE, hk, e1, e2, e3]
    simp
  · rw [hk] at hp
    refine stmtC3 w0 H K s.var s.box s.e _ _ A o A0 c0 A1 c1 A2 c2 hA hp hE (kb h ?_)
    simp only [stmtV, stBlock, stSimple, plainE, hk, e1, e2, e3]
    simp
  · rw [hk] at hp
    refine stmtC4 w0 H K s.var s.box s.e _ _ A o A0 c0 A1 c1 A2 c2 hA hp hE (kb h ?_)
    simp only [stmtV, stBlock, stSimple, plainE, hk, e1, e2, e3]
    simp
  · rw [hk] at hp
    refine stmtC5 w0 H K s.var s.box s.e _ _ A o A0 c0 A1 c1 A2 c2 hA hp hE (kb h ?_)
    simp only [stmtV, stBlock, stSimple, plainE, hk, e1, e2, e3]
    simp
  · rw [hk] at hp
    refine stmtC6 w0 H K s.var s.box s.e _ _ A o A0 c0 A1 c1 A2 c2 hA hp hE (kb h ?_)
    simp only [stmtV, stBlock, stSimple, plainE, hk, e1, e2, e3]
    simp
  · rw [hk] at hp
    refine stmtC7 w0 H K s.var s.box s.e _ _ A o A0 c0 A1 c1 A2 c2 hA hp hE (kb h ?_)
    simp only [stmtV, stBlock, stSimple, plainE, hk, e1, e2, e3]
    simp
  · refine stmtC0 w0 H K s.kind s.var s.box s.e _ _ A o A0 c0 A1 c1 A2 c2 hA hp hE hk (kb h ?_)
    obtain ⟨k1, k2, k3, k4, k5, k6, k7⟩ := hk
    simp [stmtV, stSimple, k1, k2, k3, k4, k5, k6, k7]
end Go.Proofs.Ytjhedgoafkabiaa
namespace Go.Proofs.Ytjhedgoafkabiaa
set_option linter.all false
open Go Go.RowKit
set_option maxRecDepth 100000
variable (w0 : World)
/-- The count's block. -/
abbrev ck (q : Int) : Blk := ⟨[.int .i64 q], true, 3, 1⟩
theorem cntL_ge (ss : List St) (k : Nat) (hk : k ≤ ss.length) : cntL (ss.take k) + (ss.length - k) ≤ cntL ss := by
  have h1 := cntL_app (ss.take k) (ss.drop k)
  have h2 := cntL_len (ss.drop k)
  rw [List.take_append_drop] at h1
  rw [List.length_drop] at h2
  omega
theorem stmtV_of {d : Nat} {s : St} (h : stOk d s = true) : stmtV s = true := by
  unfold stmtV
  split
  · rename_i hk
    obtain ⟨_, _, h1, _⟩ := stOk_block h hk
    exact h1
  · rename_i hk
    exact stOk_simple h (fun e => hk (.inl e)) (fun e => hk (.inr e))
theorem simple_cnt {s : St} (h : stSimple s = true) : s.cnt = 1 := by
  simp only [stSimple, Bool.and_eq_true, List.isEmpty_iff] at h
  rw [s.cnt_eq, h.1.1, h.1.2]; simp [cntL]
theorem ok_of_simple {d : Nat} {s : St} (h2 : ¬ (s.kind = 2 ∨ s.kind = 3)) : stOk d s = stSimple s := by
  cases d <;> (simp only [stOk]; rw [if_neg h2])
theorem ok_of_block {d : Nat} {s : St} (h2 : s.kind = 2 ∨ s.kind = 3) : stOk (d + 1) s = (stBlock s && s.body.all (stOk d) && s.els.all (stOk d)) := by
  simp only [stOk]; rw [if_pos h2]
theorem all_false {d : Nat} {ss : List St} {k : Nat} (hk : k < ss.length) (h : stOk d ss[k] = false) : ss.all (stOk d) = false := by
  rw [List.all_eq_false]
  exact ⟨_, List.getElem_mem hk, by simp [h]⟩
abbrev BvP (d bl : Nat) : Prop := ∀ (ss : List St) (A : Option Addr) (c y q : Nat) (D : AHeap) (K : Value → AHeap → Prop), D y = none → cntL ss ≤ 1048576 → q ≤ 16 → StR D ss A 0 →
  (∀ (r : Bool) (q' : Int), r = (ss.all (stOk d) && decide (q + cntL ss ≤ 16)) → (r = true → q' = ((q + cntL ss : Nat) : Int)) → K (.bool r) (D.set y (ck q'))) →
  ACalls Try.prog w0 74 [.slice A ss.length c, .int .i64 3, .int .i64 bl, .pointer (some ⟨y, 0, none⟩)] (D.set y (ck q)) K
theorem bvP_of (d bl : Nat) (hb3 : bl + d = 3) (ih : ∀ d', d = d' + 1 → BvP w0 d' (bl + 1)) : BvP w0 d bl := by
  intro ss A c y q D K hy hc hq hR h
  have hl := cntL_len ss
  have w1 := nat_add (a := q) (b := ss.length) (by omega)
  refine acalls_of_sx mix Try.func74 of74 (by simp [ir74]) ?_; rw [ir74]; (try delta qT qI qC qO qM qG)
  by_cases hbig : 16 < q + ss.length
  · have g0 : decide (((q + ss.length : Nat) : Int) > 16) = true := by simp; omega
    repeat' (first | simp -implicitDefEqProofs only [zG1,zG2,zG3,zG4,zG5,zG6,zG7,eq_self,resV,rval,X.val,binv,fillL,setR,↓reduceIte,Nat.reduceEqDiff,Nat.reduceAdd,Nat.reduceMul,Nat.reduceLeDiff,Nat.reduceLT,Nat.reduceSub,reduceCtorEq,zGq, w1, g0] | ((with_reducible refine rows_intro (fun _ hb => ?_)); try simp only [set_none, ne_eq] at hb) | ((with_reducible refine new_intro (fun _ hb => ?_)); try simp only [set_none, ne_eq] at hb) | (with_reducible refine draw_same ?_) | ((with_reducible refine gd_split ?_ (fun _ => ?_) (fun _ => ?_)); exact rfl) | ((with_reducible refine td_split ?_ (fun _ => ?_) (fun _ => ?_)); exact rfl) | (with_reducible refine c_split (fun _ => ?_) (fun _ => ?_)))
    refine ret_same (h false _ ?_ (fun e => by cases e))
    have : ¬ q + cntL ss ≤ 16 := by omega
    simp [this]
  · have g0 : decide (((q + ss.length : Nat) : Int) > 16) = false := by simp; omega
    repeat' (first | simp -implicitDefEqProofs only [zG1,zG2,zG3,zG4,zG5,zG6,zG7,eq_self,resV,rval,X.val,binv,fillL,setR,↓reduceIte,Nat.reduceEqDiff,Nat.reduceAdd,Nat.reduceMul,Nat.reduceLeDiff,Nat.reduceLT,Nat.reduceSub,reduceCtorEq,zGq, w1, g0] | ((with_reducible refine rows_intro (fun _ hb => ?_)); try simp only [set_none, ne_eq] at hb) | ((with_reducible refine new_intro (fun _ hb => ?_)); try simp only [set_none, ne_eq] at hb) | (with_reducible refine draw_same ?_) | ((with_reducible refine gd_split ?_ (fun _ => ?_) (fun _ => ?_)); exact rfl) | ((with_reducible refine td_split ?_ (fun _ => ?_) (fun _ => ?_)); exact rfl) | (with_reducible refine c_split (fun _ => ?_) (fun _ => ?_)))
    refine for_rule ss.length (fun k fr C => C = D.set y (ck ((q + ss.length + (cntL (ss.take k) - k) : Nat) : Int)) ∧ q + ss.length + (cntL (ss.take k) - k) ≤ 16 ∧ (∀ i (hi : i < ss.length), i < k → stOk d ss[i] = true) ∧
        fr 0 = .slice A ss.length c ∧ fr 1 = .int .i64 3 ∧ fr 2 = .int .i64 bl ∧ fr 3 = .pointer (some ⟨y, 0, none⟩) ∧ fr 23 = .int .i64 ss.length ∧ fr 24 = .int .i64 k)
      ⟨by simp [cntL], by simp [cntL]; omega, fun i hi hk => by omega, (by first | rfl | (simp only [put_at, ↓reduceIte, Nat.reduceEqDiff]; first | done | rfl | assumption) | simp [put_at, *]), (by first | rfl | (simp only [put_at, ↓reduceIte, Nat.reduceEqDiff]; first | done | rfl | assumption) | simp [put_at, *]), (by first | rfl | (simp only [put_at, ↓reduceIte, Nat.reduceEqDiff]; first | done | rfl | assumption) | simp [put_at, *]), (by first | rfl | (simp only [put_at, ↓reduceIte, Nat.reduceEqDiff]; first | done | rfl | assumption) | simp [put_at, *]), (by first | rfl | (simp only [put_at, ↓reduceIte, Nat.reduceEqDiff]; first | done | rfl | assumption) | simp [put_at, *]), (by first | rfl | (simp only [put_at, ↓reduceIte, Nat.reduceEqDiff]; first | done | rfl | assumption) | simp [put_at, *])⟩ ?_ ?_
    · rintro k fr _ hk ⟨rfl, hq2, hok, f0, f1, f2, f3, f23, f24⟩ N hN
      have g3 := lt_dec hk
      have g1 := rng hk
      have g2 := up1 hk (by omega)
      have hge := cntL_ge ss (k + 1) (by omega)
      have htk := cntL_take hk
      have hlk : k ≤ cntL (ss.take k) := by
        have := cntL_len (ss.take k)
        rw [List.length_take] at this; omega
      have hcs := ss[k].cnt_eq
      have gbl : decide ((bl : Int) > 3) = false := by simp; omega
      generalize hqk : q + ss.length + (cntL (ss.take k) - k) = qk at *
      have ly := (AHeap.le.refl D).fresh hy (ck (qk : Int))
      obtain ⟨gA, a0, d0, a1, d1, a2, d2, gp0, hx⟩ := hR.arg hk
      have gp := gp0.le ly
      have hxC := hx.le ly
      obtain ⟨hE, ⟨hb1, hbR⟩, hl1, hlR⟩ := hx.parts
      obtain ⟨hEC, -, -⟩ := hxC.parts
      cases hv : stmtV ss[k] with
      | false =>
        have hno : stOk d ss[k] = false := by
          cases hs : stOk d ss[k] with
          | false => rfl
          | true => rw [stmtV_of hs] at hv; cases hv
        repeat' (first | simp -implicitDefEqProofs only [zG1,zG2,zG3,zG4,zG5,zG6,zG7,eq_self,resV,rval,X.val,binv,fillL,setR,↓reduceIte,Nat.reduceEqDiff,Nat.reduceAdd,Nat.reduceMul,Nat.reduceLeDiff,Nat.reduceLT,Nat.reduceSub,reduceCtorEq,zGq, f0, f1, f2, f3, f23, f24, g3, g1, gA, hv] | ((with_reducible refine rows_intro (fun _ hb => ?_)); try simp only [set_none, ne_eq] at hb) | ((with_reducible refine new_intro (fun _ hb => ?_)); try simp only [set_none, ne_eq] at hb) | (with_reducible refine draw_same ?_) | ((with_reducible refine gd_split ?_ (fun _ => ?_) (fun _ => ?_)); exact rfl) | ((with_reducible refine td_split ?_ (fun _ => ?_) (fun _ => ?_)); exact rfl) | (with_reducible refine c_split (fun _ => ?_) (fun _ => ?_)) | (with_reducible refine stmtValid_ok _ _ _ ss[k] A (k * 8) a0 d0 a1 d1 a2 d2 gA gp hEC ?_))
        exact ret_same (h false _ (by rw [all_false hk hno]; rfl) (fun e => by cases e))
      | true =>
        by_cases hkd : ss[k].kind = 2 ∨ ss[k].kind = 3
        · cases d with
          | zero =>
            have hno : stOk 0 ss[k] = false := by simp only [stOk]; rw [if_pos hkd]
            have gb3 : decide ((bl : Int) ≥ 3) = true := by simp; omega
            rcases hkd with e2 | e2
            all_goals
              have hk2 : (ss[k].kind == 2) = decide (ss[k].kind = 2) := rfl
              rw [e2] at gp
              repeat' (first | simp -implicitDefEqProofs only [zG1,zG2,zG3,zG4,zG5,zG6,zG7,eq_self,resV,rval,X.val,binv,fillL,setR,↓reduceIte,Nat.reduceEqDiff,Nat.reduceAdd,Nat.reduceMul,Nat.reduceLeDiff,Nat.reduceLT,Nat.reduceSub,reduceCtorEq,zGq, f0, f1, f2, f3, f23, f24, g3, g1, gA, gp, hv, gbl, gb3, Int.reduceBEq, Int.reduceBNe, bne_self_eq_false] | ((with_reducible refine rows_intro (fun _ hb => ?_)); try simp only [set_none, ne_eq] at hb) | ((with_reducible refine new_intro (fun _ hb => ?_)); try simp only [set_none, ne_eq] at hb) | (with_reducible refine draw_same ?_) | ((with_reducible refine gd_split ?_ (fun _ => ?_) (fun _ => ?_)); exact rfl) | ((with_reducible refine td_split ?_ (fun _ => ?_) (fun _ => ?_)); exact rfl) | (with_reducible refine c_split (fun _ => ?_) (fun _ => ?_)) | (with_reducible refine stmtValid_ok _ _ _ ss[k] A (k * 8) a0 d0 a1 d1 a2 d2 gA (gp0.le ly) hEC ?_))
              exact ret_same (h false _ (by rw [all_false hk hno]; rfl) (fun e => by cases e))
          | succ d' =>
            have ihd := ih d' rfl
            have gb3 : decide ((bl : Int) ≥ 3) = false := by simp; omega
            have gb1 := nat_up (a := bl) (by omega)
            have hokb := ok_of_block (d := d') hkd
            have hsb : stBlock ss[k] = true := by simp only [stmtV, if_pos hkd] at hv; exact hv
            have hno : ∀ r1 : Bool, r1 = false → (r1 = (ss[k].body.all (stOk d') && decide (qk + cntL ss[k].body ≤ 16))) → (ss.all (stOk (d' + 1)) && decide (q + cntL ss ≤ 16)) = false := by
              intro r1 e1 e2
              subst e1
              cases hb : ss[k].body.all (stOk d') with
              | false => rw [all_false hk (by rw [hokb, hb]; simp)]; rfl
              | true =>
                have : ¬ q + cntL ss ≤ 16 := by
                  rw [hb] at e2
                  simp at e2
                  omega
                simp [this]
            have hno2 : ∀ r1 : Bool, r1 = false → (r1 = (ss[k].els.all (stOk d') && decide (qk + cntL ss[k].body + cntL ss[k].els ≤ 16))) → (ss.all (stOk (d' + 1)) && decide (q + cntL ss ≤ 16)) = false := by
              intro r1 e1 e2
              subst e1
              cases hb : ss[k].els.all (stOk d') with
              | false => rw [all_false hk (by rw [hokb, hb]; simp)]; rfl
              | true =>
                have : ¬ q + cntL ss ≤ 16 := by
                  rw [hb] at e2
                  simp at e2
                  omega
                simp [this]
            have fin : ∀ (fr' : Fr), (ss[k].body.all (stOk d')) = true → (ss[k].els.all (stOk d')) = true → qk + cntL ss[k].body + cntL ss[k].els ≤ 16 → fr' 0 = .slice A ss.length c → fr' 1 = .int .i64 3 → fr' 2 = .int .i64 bl → fr' 3 = .pointer (some ⟨y, 0, none⟩) → fr' 23 = .int .i64 ss.length → fr' 24 = .int .i64 ((k + 1 : Nat) : Int) →
                N fr' (D.set y (ck ((qk + cntL ss[k].body + cntL ss[k].els : Nat) : Int))) := by
              intro fr' hb1 hb2 hle h0 h1 h2 h3 h23 h24
              refine hN _ _ _ (.refl _) ⟨?_, by omega, fun i hi hik => ?_, h0, h1, h2, h3, h23, h24⟩
              · rw [show q + ss.length + (cntL (ss.take (k + 1)) - (k + 1)) = qk + cntL ss[k].body + cntL ss[k].els by omega]
              · rcases Nat.lt_succ_iff_lt_or_eq.1 hik with hik | rfl
                · exact hok i hi hik
                · rw [hokb, hsb, hb1, hb2]; rfl
            rcases hkd with e2 | e2
            all_goals
              rw [e2] at gp
              repeat' (first | simp -implicitDefEqProofs only [zG1,zG2,zG3,zG4,zG5,zG6,zG7,eq_self,resV,rval,X.val,binv,fillL,setR,↓reduceIte,Nat.reduceEqDiff,Nat.reduceAdd,Nat.reduceMul,Nat.reduceLeDiff,Nat.reduceLT,Nat.reduceSub,reduceCtorEq,zGq, f0, f1, f2, f3, f23, f24, g3, g1, gA, gp, hv, gbl, gb3, gb1, Int.reduceBEq, Int.reduceBNe, bne_self_eq_false] | ((with_reducible refine rows_intro (fun _ hb => ?_)); try simp only [set_none, ne_eq] at hb) | ((with_reducible refine new_intro (fun _ hb => ?_)); try simp only [set_none, ne_eq] at hb) | (with_reducible refine draw_same ?_) | ((with_reducible refine gd_split ?_ (fun _ => ?_) (fun _ => ?_)); exact rfl) | ((with_reducible refine td_split ?_ (fun _ => ?_) (fun _ => ?_)); exact rfl) | (with_reducible refine c_split (fun _ => ?_) (fun _ => ?_)) | (with_reducible refine stmtValid_ok _ _ _ ss[k] A (k * 8) a0 d0 a1 d1 a2 d2 gA (gp0.le ly) hEC ?_))
              refine ihd ss[k].body a1 d1 y qk D _ hy (by omega) hq2 hbR (fun r1 q1 hr1 hq1 => ?_)
              have gp1 := gp0.le ((AHeap.le.refl D).fresh hy (ck q1))
              rw [e2] at gp1
              cases r1 with
              | false =>
                repeat' (first | simp -implicitDefEqProofs only [zG1,zG2,zG3,zG4,zG5,zG6,zG7,eq_self,resV,rval,X.val,binv,fillL,setR,↓reduceIte,Nat.reduceEqDiff,Nat.reduceAdd,Nat.reduceMul,Nat.reduceLeDiff,Nat.reduceLT,Nat.reduceSub,reduceCtorEq,zGq, f0, f1, f2, f3, f23, f24, gp1] | ((with_reducible refine rows_intro (fun _ hb => ?_)); try simp only [set_none, ne_eq] at hb) | ((with_reducible refine new_intro (fun _ hb => ?_)); try simp only [set_none, ne_eq] at hb) | (with_reducible refine draw_same ?_) | ((with_reducible refine gd_split ?_ (fun _ => ?_) (fun _ => ?_)); exact rfl) | ((with_reducible refine td_split ?_ (fun _ => ?_) (fun _ => ?_)); exact rfl) | (with_reducible refine c_split (fun _ => ?_) (fun _ => ?_)))
                exact ret_same (h false _ (hno false rfl hr1).symm (fun e => by cases e))
              | true =>
                obtain rfl := hq1 rfl
                have hr1' := hr1.symm
                simp only [Bool.and_eq_true, decide_eq_true_eq] at hr1'
                repeat' (first | simp -implicitDefEqProofs only [zG1,zG2,zG3,zG4,zG5,zG6,zG7,eq_self,resV,rval,X.val,binv,fillL,setR,↓reduceIte,Nat.reduceEqDiff,Nat.reduceAdd,Nat.reduceMul,Nat.reduceLeDiff,Nat.reduceLT,Nat.reduceSub,reduceCtorEq,zGq, f0, f1, f2, f3, f23, f24, gA, gp1, gb1] | ((with_reducible refine rows_intro (fun _ hb => ?_)); try simp only [set_none, ne_eq] at hb) | ((with_reducible refine new_intro (fun _ hb => ?_)); try simp only [set_none, ne_eq] at hb) | (with_reducible refine draw_same ?_) | ((with_reducible refine gd_split ?_ (fun _ => ?_) (fun _ => ?_)); exact rfl) | ((with_reducible refine td_split ?_ (fun _ => ?_) (fun _ => ?_)); exact rfl) | (with_reducible refine c_split (fun _ => ?_) (fun _ => ?_)))
                refine ihd ss[k].els a2 d2 y (qk + cntL ss[k].body) D _ hy (by omega) hr1'.2 hlR (fun r2 q2 hr2 hq2 => ?_)
                cases r2 with
                | false =>
                  repeat' (first | simp -implicitDefEqProofs only [zG1,zG2,zG3,zG4,zG5,zG6,zG7,eq_self,resV,rval,X.val,binv,fillL,setR,↓reduceIte,Nat.reduceEqDiff,Nat.reduceAdd,Nat.reduceMul,Nat.reduceLeDiff,Nat.reduceLT,Nat.reduceSub,reduceCtorEq,zGq, f0, f1, f2, f3, f23, f24] | ((with_reducible refine rows_intro (fun _ hb => ?_)); try simp only [set_none, ne_eq] at hb) | ((with_reducible refine new_intro (fun _ hb => ?_)); try simp only [set_none, ne_eq] at hb) | (with_reducible refine draw_same ?_) | ((with_reducible refine gd_split ?_ (fun _ => ?_) (fun _ => ?_)); exact rfl) | ((with_reducible refine td_split ?_ (fun _ => ?_) (fun _ => ?_)); exact rfl) | (with_reducible refine c_split (fun _ => ?_) (fun _ => ?_)))
                  exact ret_same (h false _ (hno2 false rfl hr2).symm (fun e => by cases e))
                | true =>
                  obtain rfl := hq2 rfl
                  have hr2' := hr2.symm
                  simp only [Bool.and_eq_true, decide_eq_true_eq] at hr2'
                  repeat' (first | simp -implicitDefEqProofs only [zG1,zG2,zG3,zG4,zG5,zG6,zG7,eq_self,resV,rval,X.val,binv,fillL,setR,↓reduceIte,Nat.reduceEqDiff,Nat.reduceAdd,Nat.reduceMul,Nat.reduceLeDiff,Nat.reduceLT,Nat.reduceSub,reduceCtorEq,zGq, f0, f1, f2, f3, f23, f24, g2] | ((with_reducible refine rows_intro (fun _ hb => ?_)); try simp only [set_none, ne_eq] at hb) | ((with_reducible refine new_intro (fun _ hb => ?_)); try simp only [set_none, ne_eq] at hb) | (with_reducible refine draw_same ?_) | ((with_reducible refine gd_split ?_ (fun _ => ?_) (fun _ => ?_)); exact rfl) | ((with_reducible refine td_split ?_ (fun _ => ?_) (fun _ => ?_)); exact rfl) | (with_reducible refine c_split (fun _ => ?_) (fun _ => ?_)))
                  exact fin _ hr1'.1 hr2'.1 hr2'.2 (by first | rfl | (simp only [put_at, ↓reduceIte, Nat.reduceEqDiff]; first | done | rfl | assumption) | simp [put_at, *]) (by first | rfl | (simp only [put_at, ↓reduceIte, Nat.reduceEqDiff]; first | done | rfl | assumption) | simp [put_at, *]) (by first | rfl | (simp only [put_at, ↓reduceIte, Nat.reduceEqDiff]; first | done | rfl | assumption) | simp [put_at, *]) (by first | rfl | (simp only [put_at, ↓reduceIte, Nat.reduceEqDiff]; first | done | rfl | assumption) | simp [put_at, *]) (by first | rfl | (simp only [put_at, ↓reduceIte, Nat.reduceEqDiff]; first | done | rfl | assumption) | simp [put_at, *]) (by first | rfl | (simp only [put_at, ↓reduceIte, Nat.reduceEqDiff]; first | done | rfl | assumption) | simp [put_at, *])
        · have n2 : (ss[k].kind != 2) = true := by simp only [bne_iff_ne, ne_eq]; exact fun e => hkd (.inl e)
          have n3 : (ss[k].kind != 3) = true := by simp only [bne_iff_ne, ne_eq]; exact fun e => hkd (.inr e)
          have hs : stSimple ss[k] = true := by simp only [stmtV, if_neg hkd] at hv; exact hv
          have h1c := simple_cnt hs
          repeat' (first | simp -implicitDefEqProofs only [zG1,zG2,zG3,zG4,zG5,zG6,zG7,eq_self,resV,rval,X.val,binv,fillL,setR,↓reduceIte,Nat.reduceEqDiff,Nat.reduceAdd,Nat.reduceMul,Nat.reduceLeDiff,Nat.reduceLT,Nat.reduceSub,reduceCtorEq,zGq, f0, f1, f2, f3, f23, f24, g3, g1, g2, gA, gp, hv, gbl, n2, n3] | ((with_reducible refine rows_intro (fun _ hb => ?_)); try simp only [set_none, ne_eq] at hb) | ((with_reducible refine new_intro (fun _ hb => ?_)); try simp only [set_none, ne_eq] at hb) | (with_reducible refine draw_same ?_) | ((with_reducible refine gd_split ?_ (fun _ => ?_) (fun _ => ?_)); exact rfl) | ((with_reducible refine td_split ?_ (fun _ => ?_) (fun _ => ?_)); exact rfl) | (with_reducible refine c_split (fun _ => ?_) (fun _ => ?_)) | (with_reducible refine stmtValid_ok _ _ _ ss[k] A (k * 8) a0 d0 a1 d1 a2 d2 gA gp hEC ?_))
          refine hN _ _ _ (.refl _) ⟨?_, by omega, fun i hi hik => ?_, (by first | rfl | (simp only [put_at, ↓reduceIte, Nat.reduceEqDiff]; first | done | rfl | assumption) | simp [put_at, *]), (by first | rfl | (simp only [put_at, ↓reduceIte, Nat.reduceEqDiff]; first | done | rfl | assumption) | simp [put_at, *]), (by first | rfl | (simp only [put_at, ↓reduceIte, Nat.reduceEqDiff]; first | done | rfl | assumption) | simp [put_at, *]), (by first | rfl | (simp only [put_at, ↓reduceIte, Nat.reduceEqDiff]; first | done | rfl | assumption) | simp [put_at, *]), (by first | rfl | (simp only [put_at, ↓reduceIte, Nat.reduceEqDiff]; first | done | rfl | assumption) | simp [put_at, *]), (by first | rfl | (simp only [put_at, ↓reduceIte, Nat.reduceEqDiff]; first | done | rfl | assumption) | simp [put_at, *])⟩
          · rw [show q + ss.length + (cntL (ss.take (k + 1)) - (k + 1)) = qk by omega]
          · rcases Nat.lt_succ_iff_lt_or_eq.1 hik with hik | rfl
            · exact hok i hi hik
            · rw [ok_of_simple hkd]; exact hs
    · rintro fr _ ⟨rfl, hq2, hok, f0, f1, f2, f3, f23, f24⟩ N
      have g3 : decide ((ss.length : Int) < (ss.length : Int)) = false := by simp
      rw [List.take_length] at hq2 ⊢
      repeat' (first | simp -implicitDefEqProofs only [zG1,zG2,zG3,zG4,zG5,zG6,zG7,eq_self,resV,rval,X.val,binv,fillL,setR,↓reduceIte,Nat.reduceEqDiff,Nat.reduceAdd,Nat.reduceMul,Nat.reduceLeDiff,Nat.reduceLT,Nat.reduceSub,reduceCtorEq,zGq, f0, f1, f2, f3, f23, f24, g3] | ((with_reducible refine rows_intro (fun _ hb => ?_)); try simp only [set_none, ne_eq] at hb) | ((with_reducible refine new_intro (fun _ hb => ?_)); try simp only [set_none, ne_eq] at hb) | (with_reducible refine draw_same ?_) | ((with_reducible refine gd_split ?_ (fun _ => ?_) (fun _ => ?_)); exact rfl) | ((with_reducible refine td_split ?_ (fun _ => ?_) (fun _ => ?_)); exact rfl) | (with_reducible refine c_split (fun _ => ?_) (fun _ => ?_)))
      refine ret_same (h true _ ?_ (fun _ => by omega))
      have : q + cntL ss ≤ 16 := by omega
      rw [eq_comm, Bool.and_eq_true, List.all_eq_true]
      refine ⟨fun x hx => ?_, by simpa using this⟩
      obtain ⟨i, hi, rfl⟩ := List.getElem_of_mem hx
      exact hok i hi hi
theorem bvP : ∀ d bl, bl + d = 3 → BvP w0 d bl
  | 0, bl, h => bvP_of w0 0 bl h fun d' e => by omega
  | d + 1, bl, h => bvP_of w0 (d + 1) bl h fun d' e => by
    obtain rfl : d' = d := (by omega)
    exact bvP d' (bl + 1) (by omega)
theorem stmtsValid_ok (ss : List St) (A : Option Addr) (c : Nat) (H : AHeap) (K : Value → AHeap → Prop) (hc : cntL ss ≤ 1048576) (hR : StR H ss A 0) (h : K (.bool (stsOk ss)) H) :
    ACalls Try.prog w0 34 [.slice A ss.length c] H K := by
  have inner : ∀ (D : Value → AHeap → Prop), D (.bool (stsOk ss)) H → ACalls Try.prog w0 52 [.slice A ss.length c, .int .i64 3] H D := by
    intro D hD
    refine acalls_of_sx mix Try.func52 of52 (by simp [ir52]) ?_; rw [ir52]; (try delta qT qI qC qO qM qG)
    repeat' (first | simp -implicitDefEqProofs only [zG1,zG2,zG3,zG4,zG5,zG6,zG7,eq_self,resV,rval,X.val,binv,fillL,setR,↓reduceIte,Nat.reduceEqDiff,Nat.reduceAdd,Nat.reduceMul,Nat.reduceLeDiff,Nat.reduceLT,Nat.reduceSub,reduceCtorEq,zGq] | ((with_reducible refine rows_intro (fun _ hb => ?_)); try simp only [set_none, ne_eq] at hb) | ((with_reducible refine new_intro (fun _ hb => ?_)); try simp only [set_none, ne_eq] at hb) | (with_reducible refine draw_same ?_) | ((with_reducible refine gd_split ?_ (fun _ => ?_) (fun _ => ?_)); exact rfl) | ((with_reducible refine td_split ?_ (fun _ => ?_) (fun _ => ?_)); exact rfl) | (with_reducible refine c_split (fun _ => ?_) (fun _ => ?_)))
    rename_i y
    refine bvP w0 3 0 rfl ss A c y 0 H _ hb hc (by decide) hR (fun r q' hr _ => ?_)
    have e : r = stsOk ss := by rw [hr, stsOk, Nat.zero_add]
    subst e
    repeat' (first | simp -implicitDefEqProofs only [zG1,zG2,zG3,zG4,zG5,zG6,zG7,eq_self,resV,rval,X.val,binv,fillL,setR,↓reduceIte,Nat.reduceEqDiff,Nat.reduceAdd,Nat.reduceMul,Nat.reduceLeDiff,Nat.reduceLT,Nat.reduceSub,reduceCtorEq,zGq] | ((with_reducible refine rows_intro (fun _ hb => ?_)); try simp only [set_none, ne_eq] at hb) | ((with_reducible refine new_intro (fun _ hb => ?_)); try simp only [set_none, ne_eq] at hb) | (with_reducible refine draw_same ?_) | ((with_reducible refine gd_split ?_ (fun _ => ?_) (fun _ => ?_)); exact rfl) | ((with_reducible refine td_split ?_ (fun _ => ?_) (fun _ => ?_)); exact rfl) | (with_reducible refine c_split (fun _ => ?_) (fun _ => ?_)))
    exact ⟨H, (AHeap.le.refl H).fresh hb _, hD⟩
  refine acalls_of_sx mix Try.func34 of34 (by simp [ir34]) ?_; rw [ir34]; (try delta qT qI qC qO qM qG)
  repeat' (first | simp -implicitDefEqProofs only [zG1,zG2,zG3,zG4,zG5,zG6,zG7,eq_self,resV,rval,X.val,binv,fillL,setR,↓reduceIte,Nat.reduceEqDiff,Nat.reduceAdd,Nat.reduceMul,Nat.reduceLeDiff,Nat.reduceLT,Nat.reduceSub,reduceCtorEq,zGq] | ((with_reducible refine rows_intro (fun _ hb => ?_)); try simp only [set_none, ne_eq] at hb) | ((with_reducible refine new_intro (fun _ hb => ?_)); try simp only [set_none, ne_eq] at hb) | (with_reducible refine draw_same ?_) | ((with_reducible refine gd_split ?_ (fun _ => ?_) (fun _ => ?_)); exact rfl) | ((with_reducible refine td_split ?_ (fun _ => ?_) (fun _ => ?_)); exact rfl) | (with_reducible refine c_split (fun _ => ?_) (fun _ => ?_)) | (with_reducible refine inner _ ?_))
  exact ret_same h
end Go.Proofs.Ytjhedgoafkabiaa
namespace Go.Proofs.Ytjhedgoafkabiaa
set_option linter.all false
open Go Go.RowKit
set_option maxRecDepth 100000
variable (w0 : World) (m : Nat) (hm : m ≤ 3)
/-- The statement's mailbox, if it has one, is there. -/
def bx1 (m : Nat) (s : St) : Bool := decide (s.kind ≠ 4 ∧ s.kind ≠ 5) || decide (s.box < (m : Int))
mutual
def bxS (m : Nat) : St → Bool
  | .mk k v b e body els => bx1 m (.mk k v b e body els) && bxL m body && bxL m els
def bxL (m : Nat) : List St → Bool
  | [] => true
  | s :: ss => bxS m s && bxL m ss
end
theorem bxL_all (m : Nat) : ∀ ss : List St, bxL m ss = ss.all (bxS m)
  | [] => rfl
  | s :: ss => by simp only [bxL, List.all_cons, bxL_all m ss]
theorem bxS_eq (m : Nat) (s : St) : bxS m s = (bx1 m s && s.body.all (bxS m) && s.els.all (bxS m)) := by cases s; simp only [bxS, bxL_all, St.body, St.els]
theorem all_and2 {α : Type} (p q : α → Bool) : ∀ l : List α, l.all (fun x => p x && q x) = (l.all p && l.all q)
  | [] => rfl
  | x :: l => by
    simp only [List.all_cons, all_and2 p q l]
    cases p x <;> cases q x <;> cases l.all p <;> cases l.all q <;> rfl
/-- A statement in blocks, its mailboxes there. -/
def okM (m d : Nat) (s : St) : Bool := stOk d s && bxS m s
theorem okM_all (m d : Nat) (ss : List St) : ss.all (okM m d) = (ss.all (stOk d) && bxL m ss) := by rw [bxL_all]; exact all_and2 _ _ ss
include hm in
theorem stmtM1 (H : AHeap) (K : Value → AHeap → Prop) (v b : Int) (e : Ex) (n1 n2 : Nat) (A : Option Addr) (o : Nat) (A0 : Option Addr) (c0 : Nat) (A1 : Option Addr) (c1 : Nat) (A2 : Option Addr) (c2 : Nat) (hA : A.isSome = true)
    (hp : Pl8 H A o 1 v b e n1 n2 A0 c0 A1 c1 A2 c2) (hE : ExV H e [.int .i64 e.op, .int .i64 e.n, .slice A0 e.args.length c0]) (h : K (.bool ((((n1 : Nat) : Int) == 0) && (((n2 : Nat) : Int) == 0) && (decide (0 ≤ v) && decide (v ≤ 3) && b == 0 && exprOk 5 e))) H) :
    ACalls Try.prog w0 86 [.pointer (adr A o), .int .i64 (m : Int)] H K := by
  refine acalls_of_sx mix Try.func86 of86 (by simp [ir86]) ?_; rw [ir86]; (try delta qT qI qC qO qM qG)
  repeat' (first | simp -implicitDefEqProofs only [zG1,zG2,zG3,zG4,zG5,zG6,zG7,eq_self,resV,rval,X.val,binv,fillL,setR,↓reduceIte,Nat.reduceEqDiff,Nat.reduceAdd,Nat.reduceMul,Nat.reduceLeDiff,Nat.reduceLT,Nat.reduceSub,reduceCtorEq,zGr, hp, hA, Int.reduceBEq, cell_old, *] | ((with_reducible refine rows_intro (fun _ hb => ?_)); try simp only [set_none, ne_eq] at hb) | ((with_reducible refine new_intro (fun _ hb => ?_)); try simp only [set_none, ne_eq] at hb) | (with_reducible refine draw_same ?_) | ((with_reducible refine gd_split ?_ (fun _ => ?_) (fun _ => ?_)); exact rfl) | ((with_reducible refine td_split ?_ (fun _ => ?_) (fun _ => ?_)); exact rfl) | (with_reducible refine c_split (fun _ => ?_) (fun _ => ?_)) | (with_reducible refine inRange_ok _ _ _ _ _ _ ?_) | (with_reducible refine exprValid5_ok _ _ _ e A0 c0 (hE.le ((AHeap.le.refl H).fresh ‹H _ = none› _)) ?_))
  all_goals refine ⟨H, (AHeap.le.refl H).fresh ‹H _ = none› _, kb h ?_⟩
  all_goals clear hp hE h
  all_goals (try simp only [beq_iff_eq, beq_eq_false_iff_ne, bne_iff_ne, bne_eq_false_iff_eq, decide_eq_true_eq, decide_eq_false_iff_not, ne_eq, Bool.not_eq_true, Bool.not_eq_false, Bool.not_eq_eq_eq_not, Bool.not_true, Bool.not_false, Int.not_lt, Int.not_le, ge_iff_le, gt_iff_lt] at *)
  all_goals grind
include hm in
theorem stmtM2 (H : AHeap) (K : Value → AHeap → Prop) (v b : Int) (e : Ex) (n1 n2 : Nat) (A : Option Addr) (o : Nat) (A0 : Option Addr) (c0 : Nat) (A1 : Option Addr) (c1 : Nat) (A2 : Option Addr) (c2 : Nat) (hA : A.isSome = true)
    (hp : Pl8 H A o 2 v b e n1 n2 A0 c0 A1 c1 A2 c2) (hE : ExV H e [.int .i64 e.op, .int .i64 e.n, .slice A0 e.args.length c0]) (h : K (.bool (v == 0 && b == 0 && exprOk 5 e)) H) :
    ACalls Try.prog w0 86 [.pointer (adr A o), .int .i64 (m : Int)] H K := by
  refine acalls_of_sx mix Try.func86 of86 (by simp [ir86]) ?_; rw [ir86]; (try delta qT qI qC qO qM qG)
  repeat' (first | simp -implicitDefEqProofs only [zG1,zG2,zG3,zG4,zG5,zG6,zG7,eq_self,resV,rval,X.val,binv,fillL,setR,↓reduceIte,Nat.reduceEqDiff,Nat.reduceAdd,Nat.reduceMul,Nat.reduceLeDiff,Nat.reduceLT,Nat.reduceSub,reduceCtorEq,zGr, hp, hA, Int.reduceBEq, cell_old, *] | ((with_reducible refine rows_intro (fun _ hb => ?_)); try simp only [set_none, ne_eq] at hb) | ((with_reducible refine new_intro (fun _ hb => ?_)); try simp only [set_none, ne_eq] at hb) | (with_reducible refine draw_same ?_) | ((with_reducible refine gd_split ?_ (fun _ => ?_) (fun _ => ?_)); exact rfl) | ((with_reducible refine td_split ?_ (fun _ => ?_) (fun _ => ?_)); exact rfl) | (with_reducible refine c_split (fun _ => ?_) (fun _ => ?_)) | (with_reducible refine inRange_ok _ _ _ _ _ _ ?_) | (with_reducible refine exprValid5_ok _ _ _ e A0 c0 (hE.le ((AHeap.le.refl H).fresh ‹H _ = none› _)) ?_))
  all_goals refine ⟨H, (AHeap.le.refl H).fresh ‹H _ = none› _, kb h ?_⟩
  all_goals clear hp hE h
  all_goals (try simp only [beq_iff_eq, beq_eq_false_iff_ne, bne_iff_ne, bne_eq_false_iff_eq, decide_eq_true_eq, decide_eq_false_iff_not, ne_eq, Bool.not_eq_true, Bool.not_eq_false, Bool.not_eq_eq_eq_not, Bool.not_true, Bool.not_false, Int.not_lt, Int.not_le, ge_iff_le, gt_iff_lt] at *)
  all_goals grind
include hm in
theorem stmtM3 (H : AHeap) (K : Value → AHeap → Prop) (v b : Int) (e : Ex) (n1 n2 : Nat) (A : Option Addr) (o : Nat) (A0 : Option Addr) (c0 : Nat) (A1 : Option Addr) (c1 : Nat) (A2 : Option Addr) (c2 : Nat) (hA : A.isSome = true)
    (hp : Pl8 H A o 3 v b e n1 n2 A0 c0 A1 c1 A2 c2) (hE : ExV H e [.int .i64 e.op, .int .i64 e.n, .slice A0 e.args.length c0]) (h : K (.bool (v == 0 && b == 0 && exprOk 5 e && (((n2 : Nat) : Int) == 0))) H) :
    ACalls Try.prog w0 86 [.pointer (adr A o), .int .i64 (m : Int)] H K := by
  refine acalls_of_sx mix Try.func86 of86 (by simp [ir86]) ?_; rw [ir86]; (try delta qT qI qC qO qM qG)
  repeat' (first | simp -implicitDefEqProofs only [zG1,zG2,zG3,zG4,zG5,zG6,zG7,eq_self,resV,rval,X.val,binv,fillL,setR,↓reduceIte,Nat.reduceEqDiff,Nat.reduceAdd,Nat.reduceMul,Nat.reduceLeDiff,Nat.reduceLT,Nat.reduceSub,reduceCtorEq,zGr, hp, hA, Int.reduceBEq, cell_old, *] | ((with_reducible refine rows_intro (fun _ hb => ?_)); try simp only [set_none, ne_eq] at hb) | ((with_reducible refine new_intro (fun _ hb => ?_)); try simp only [set_none, ne_eq] at hb) | (with_reducible refine draw_same ?_) | ((with_reducible refine gd_split ?_ (fun _ => ?_) (fun _ => ?_)); exact rfl) | ((with_reducible refine td_split ?_ (fun _ => ?_) (fun _ => ?_)); exact rfl) | (with_reducible refine c_split (fun _ => ?_) (fun _ => ?_)) | (with_reducible refine inRange_ok _ _ _ _ _ _ ?_) | (with_reducible refine exprValid5_ok _ _ _ e A0 c0 (hE.le ((AHeap.le.refl H).fresh ‹H _ = none› _)) ?_))
  all_goals refine ⟨H, (AHeap.le.refl H).fresh ‹H _ = none› _, kb h ?_⟩
  all_goals clear hp hE h
  all_goals (try simp only [beq_iff_eq, beq_eq_false_iff_ne, bne_iff_ne, bne_eq_false_iff_eq, decide_eq_true_eq, decide_eq_false_iff_not, ne_eq, Bool.not_eq_true, Bool.not_eq_false, Bool.not_eq_eq_eq_not, Bool.not_true, Bool.not_false, Int.not_lt, Int.not_le, ge_iff_le, gt_iff_lt] at *)
  all_goals grind
include hm in
theorem stmtM4 (H : AHeap) (K : Value → AHeap → Prop) (v b : Int) (e : Ex) (n1 n2 : Nat) (A : Option Addr) (o : Nat) (A0 : Option Addr) (c0 : Nat) (A1 : Option Addr) (c1 : Nat) (A2 : Option Addr) (c2 : Nat) (hA : A.isSome = true)
    (hp : Pl8 H A o 4 v b e n1 n2 A0 c0 A1 c1 A2 c2) (hE : ExV H e [.int .i64 e.op, .int .i64 e.n, .slice A0 e.args.length c0]) (h : K (.bool ((((n1 : Nat) : Int) == 0) && (((n2 : Nat) : Int) == 0) && (v == 0 && decide (0 ≤ b) && decide (b < (m : Int)) && exprOk 5 e))) H) :
    ACalls Try.prog w0 86 [.pointer (adr A o), .int .i64 (m : Int)] H K := by
  refine acalls_of_sx mix Try.func86 of86 (by simp [ir86]) ?_; rw [ir86]; (try delta qT qI qC qO qM qG)
  repeat' (first | simp -implicitDefEqProofs only [zG1,zG2,zG3,zG4,zG5,zG6,zG7,eq_self,resV,rval,X.val,binv,fillL,setR,↓reduceIte,Nat.reduceEqDiff,Nat.reduceAdd,Nat.reduceMul,Nat.reduceLeDiff,Nat.reduceLT,Nat.reduceSub,reduceCtorEq,zGr, hp, hA, Int.reduceBEq, cell_old, *] | ((with_reducible refine rows_intro (fun _ hb => ?_)); try simp only [set_none, ne_eq] at hb) | ((with_reducible refine new_intro (fun _ hb => ?_)); try simp only [set_none, ne_eq] at hb) | (with_reducible refine draw_same ?_) | ((with_reducible refine gd_split ?_ (fun _ => ?_) (fun _ => ?_)); exact rfl) | ((with_reducible refine td_split ?_ (fun _ => ?_) (fun _ => ?_)); exact rfl) | (with_reducible refine c_split (fun _ => ?_) (fun _ => ?_)) | (with_reducible refine inRange_ok _ _ _ _ _ _ ?_) | (with_reducible refine exprValid5_ok _ _ _ e A0 c0 (hE.le ((AHeap.le.refl H).fresh ‹H _ = none› _)) ?_))
  all_goals refine ⟨H, (AHeap.le.refl H).fresh ‹H _ = none› _, kb h ?_⟩
  all_goals clear hp hE h
  all_goals (try simp only [beq_iff_eq, beq_eq_false_iff_ne, bne_iff_ne, bne_eq_false_iff_eq, decide_eq_true_eq, decide_eq_false_iff_not, ne_eq, Bool.not_eq_true, Bool.not_eq_false, Bool.not_eq_eq_eq_not, Bool.not_true, Bool.not_false, Int.not_lt, Int.not_le, ge_iff_le, gt_iff_lt] at *)
  all_goals grind
include hm in
theorem stmtM5 (H : AHeap) (K : Value → AHeap → Prop) (v b : Int) (e : Ex) (n1 n2 : Nat) (A : Option Addr) (o : Nat) (A0 : Option Addr) (c0 : Nat) (A1 : Option Addr) (c1 : Nat) (A2 : Option Addr) (c2 : Nat) (hA : A.isSome = true)
    (hp : Pl8 H A o 5 v b e n1 n2 A0 c0 A1 c1 A2 c2) (hE : ExV H e [.int .i64 e.op, .int .i64 e.n, .slice A0 e.args.length c0]) (h : K (.bool ((((n1 : Nat) : Int) == 0) && (((n2 : Nat) : Int) == 0) && (decide (0 ≤ v) && decide (v ≤ 3) && decide (0 ≤ b) && decide (b < (m : Int)) && ((e.op == 0) && (e.n == 0) && (((e.args.length : Nat) : Int) == 0))))) H) :
    ACalls Try.prog w0 86 [.pointer (adr A o), .int .i64 (m : Int)] H K := by
  refine acalls_of_sx mix Try.func86 of86 (by simp [ir86]) ?_; rw [ir86]; (try delta qT qI qC qO qM qG)
  repeat' (first | simp -implicitDefEqProofs only [zG1,zG2,zG3,zG4,zG5,zG6,zG7,eq_self,resV,rval,X.val,binv,fillL,setR,↓reduceIte,Nat.reduceEqDiff,Nat.reduceAdd,Nat.reduceMul,Nat.reduceLeDiff,Nat.reduceLT,Nat.reduceSub,reduceCtorEq,zGr, hp, hA, Int.reduceBEq, cell_old, *] | ((with_reducible refine rows_intro (fun _ hb => ?_)); try simp only [set_none, ne_eq] at hb) | ((with_reducible refine new_intro (fun _ hb => ?_)); try simp only [set_none, ne_eq] at hb) | (with_reducible refine draw_same ?_) | ((with_reducible refine gd_split ?_ (fun _ => ?_) (fun _ => ?_)); exact rfl) | ((with_reducible refine td_split ?_ (fun _ => ?_) (fun _ => ?_)); exact rfl) | (with_reducible refine c_split (fun _ => ?_) (fun _ => ?_)) | (with_reducible refine inRange_ok _ _ _ _ _ _ ?_) | (with_reducible refine exprValid5_ok _ _ _ e A0 c0 (hE.le ((AHeap.le.refl H).fresh ‹H _ = none› _)) ?_))
  all_goals refine ⟨H, (AHeap.le.refl H).fresh ‹H _ = none› _, kb h ?_⟩
  all_goals clear hp hE h
  all_goals (try simp only [beq_iff_eq, beq_eq_false_iff_ne, bne_iff_ne, bne_eq_false_iff_eq, decide_eq_true_eq, decide_eq_false_iff_not, ne_eq, Bool.not_eq_true, Bool.not_eq_false, Bool.not_eq_eq_eq_not, Bool.not_true, Bool.not_false, Int.not_lt, Int.not_le, ge_iff_le, gt_iff_lt] at *)
  all_goals grind
include hm in
theorem stmtM6 (H : AHeap) (K : Value → AHeap → Prop) (v b : Int) (e : Ex) (n1 n2 : Nat) (A : Option Addr) (o : Nat) (A0 : Option Addr) (c0 : Nat) (A1 : Option Addr) (c1 : Nat) (A2 : Option Addr) (c2 : Nat) (hA : A.isSome = true)
    (hp : Pl8 H A o 6 v b e n1 n2 A0 c0 A1 c1 A2 c2) (hE : ExV H e [.int .i64 e.op, .int .i64 e.n, .slice A0 e.args.length c0]) (h : K (.bool ((((n1 : Nat) : Int) == 0) && (((n2 : Nat) : Int) == 0) && (v == 0 && b == 0 && ((e.op == 0) && (e.n == 0) && (((e.args.length : Nat) : Int) == 0))))) H) :
    ACalls Try.prog w0 86 [.pointer (adr A o), .int .i64 (m : Int)] H K := by
  refine acalls_of_sx mix Try.func86 of86 (by simp [ir86]) ?_; rw [ir86]; (try delta qT qI qC qO qM qG)
  repeat' (first | simp -implicitDefEqProofs only [zG1,zG2,zG3,zG4,zG5,zG6,zG7,eq_self,resV,rval,X.val,binv,fillL,setR,↓reduceIte,Nat.reduceEqDiff,Nat.reduceAdd,Nat.reduceMul,Nat.reduceLeDiff,Nat.reduceLT,Nat.reduceSub,reduceCtorEq,zGr, hp, hA, Int.reduceBEq, cell_old, *] | ((with_reducible refine rows_intro (fun _ hb => ?_)); try simp only [set_none, ne_eq] at hb) | ((with_reducible refine new_intro (fun _ hb => ?_)); try simp only [set_none, ne_eq] at hb) | (with_reducible refine draw_same ?_) | ((with_reducible refine gd_split ?_ (fun _ => ?_) (fun _ => ?_)); exact rfl) | ((with_reducible refine td_split ?_ (fun _ => ?_) (fun _ => ?_)); exact rfl) | (with_reducible refine c_split (fun _ => ?_) (fun _ => ?_)) | (with_reducible refine inRange_ok _ _ _ _ _ _ ?_) | (with_reducible refine exprValid5_ok _ _ _ e A0 c0 (hE.le ((AHeap.le.refl H).fresh ‹H _ = none› _)) ?_))
  all_goals refine ⟨H, (AHeap.le.refl H).fresh ‹H _ = none› _, kb h ?_⟩
  all_goals clear hp hE h
  all_goals (try simp only [beq_iff_eq, beq_eq_false_iff_ne, bne_iff_ne, bne_eq_false_iff_eq, decide_eq_true_eq, decide_eq_false_iff_not, ne_eq, Bool.not_eq_true, Bool.not_eq_false, Bool.not_eq_eq_eq_not, Bool.not_true, Bool.not_false, Int.not_lt, Int.not_le, ge_iff_le, gt_iff_lt] at *)
  all_goals grind
include hm in
theorem stmtM7 (H : AHeap) (K : Value → AHeap → Prop) (v b : Int) (e : Ex) (n1 n2 : Nat) (A : Option Addr) (o : Nat) (A0 : Option Addr) (c0 : Nat) (A1 : Option Addr) (c1 : Nat) (A2 : Option Addr) (c2 : Nat) (hA : A.isSome = true)
    (hp : Pl8 H A o 7 v b e n1 n2 A0 c0 A1 c1 A2 c2) (hE : ExV H e [.int .i64 e.op, .int .i64 e.n, .slice A0 e.args.length c0]) (h : K (.bool ((((n1 : Nat) : Int) == 0) && (((n2 : Nat) : Int) == 0) && (v == 0 && b == 0 && exprOk 5 e))) H) :
    ACalls Try.prog w0 86 [.pointer (adr A o), .int .i64 (m : Int)] H K := by
  refine acalls_of_sx mix Try.func86 of86 (by simp [ir86]) ?_; rw [ir86]; (try delta qT qI qC qO qM qG)
  repeat' (first | simp -implicitDefEqProofs only [zG1,zG2,zG3,zG4,zG5,zG6,zG7,eq_self,resV,rval,X.val,binv,fillL,setR,↓reduceIte,Nat.reduceEqDiff,Nat.reduceAdd,Nat.reduceMul,Nat.reduceLeDiff,Nat.reduceLT,Nat.reduceSub,reduceCtorEq,zGr, hp, hA, Int.reduceBEq, cell_old, *] | ((with_reducible refine rows_intro (fun _ hb => ?_)); try simp only [set_none, ne_eq] at hb) | ((with_reducible refine new_intro (fun _ hb => ?_)); try simp only [set_none, ne_eq] at hb) | (with_reducible refine draw_same ?_) | ((with_reducible refine gd_split ?_ (fun _ => ?_) (fun _ => ?_)); exact rfl) | ((with_reducible refine td_split ?_ (fun _ => ?_) (fun _ => ?_)); exact rfl) | (with_reducible refine c_split (fun _ => ?_) (fun _ => ?_)) | (with_reducible refine inRange_ok _ _ _ _ _ _ ?_) | (with_reducible refine exprValid5_ok _ _ _ e A0 c0 (hE.le ((AHeap.le.refl H).fresh ‹H _ = none› _)) ?_))
  all_goals refine ⟨H, (AHeap.le.refl H).fresh ‹H _ = none› _, kb h ?_⟩
  all_goals clear hp hE h
  all_goals (try simp only [beq_iff_eq, beq_eq_false_iff_ne, bne_iff_ne, bne_eq_false_iff_eq, decide_eq_true_eq, decide_eq_false_iff_not, ne_eq, Bool.not_eq_true, Bool.not_eq_false, Bool.not_eq_eq_eq_not, Bool.not_true, Bool.not_false, Int.not_lt, Int.not_le, ge_iff_le, gt_iff_lt] at *)
  all_goals grind
theorem stmtM0 (H : AHeap) (K : Value → AHeap → Prop) (k : Int) (v b : Int) (e : Ex) (n1 n2 : Nat) (A : Option Addr) (o : Nat) (A0 : Option Addr) (c0 : Nat) (A1 : Option Addr) (c1 : Nat) (A2 : Option Addr) (c2 : Nat) (hA : A.isSome = true)
    (hp : Pl8 H A o k v b e n1 n2 A0 c0 A1 c1 A2 c2) (hE : ExV H e [.int .i64 e.op, .int .i64 e.n, .slice A0 e.args.length c0]) (hk : ¬ k = 1 ∧ ¬ k = 2 ∧ ¬ k = 3 ∧ ¬ k = 4 ∧ ¬ k = 5 ∧ ¬ k = 6 ∧ ¬ k = 7) (h : K (.bool false) H) :
    ACalls Try.prog w0 86 [.pointer (adr A o), .int .i64 (m : Int)] H K := by
  obtain ⟨k1, k2, k3, k4, k5, k6, k7⟩ := hk
  have e1 : (k == 1) = false := by simp [k1]
  have e2 : (k == 2) = false := by simp [k2]
  have e3 : (k == 3) = false := by simp [k3]
  have e4 : (k == 4) = false := by simp [k4]
  have e5 : (k == 5) = false := by simp [k5]
  have e6 : (k == 6) = false := by simp [k6]
  have e7 : (k == 7) = false := by simp [k7]
  refine acalls_of_sx mix Try.func86 of86 (by simp [ir86]) ?_; rw [ir86]; (try delta qT qI qC qO qM qG)
  repeat' (first | simp -implicitDefEqProofs only [zG1,zG2,zG3,zG4,zG5,zG6,zG7,eq_self,resV,rval,X.val,binv,fillL,setR,↓reduceIte,Nat.reduceEqDiff,Nat.reduceAdd,Nat.reduceMul,Nat.reduceLeDiff,Nat.reduceLT,Nat.reduceSub,reduceCtorEq,zGr, hp, hA, e1, e2, e3, e4, e5, e6, e7, cell_old, *] | ((with_reducible refine rows_intro (fun _ hb => ?_)); try simp only [set_none, ne_eq] at hb) | ((with_reducible refine new_intro (fun _ hb => ?_)); try simp only [set_none, ne_eq] at hb) | (with_reducible refine draw_same ?_) | ((with_reducible refine gd_split ?_ (fun _ => ?_) (fun _ => ?_)); exact rfl) | ((with_reducible refine td_split ?_ (fun _ => ?_) (fun _ => ?_)); exact rfl) | (with_reducible refine c_split (fun _ => ?_) (fun _ => ?_)))
  exact ⟨H, (AHeap.le.refl H).fresh ‹H _ = none› _, h⟩
include hm in
theorem stmtValidM_ok (H : AHeap) (K : Value → AHeap → Prop) (s : St) (A : Option Addr) (o : Nat) (A0 : Option Addr) (c0 : Nat) (A1 : Option Addr) (c1 : Nat) (A2 : Option Addr) (c2 : Nat) (hA : A.isSome = true)
    (hp : Pl8 H A o s.kind s.var s.box s.e s.body.length s.els.length A0 c0 A1 c1 A2 c2) (hE : ExV H s.e [.int .i64 s.e.op, .int .i64 s.e.n, .slice A0 s.e.args.length c0]) (h : K (.bool (stmtV s && bx1 m s)) H) :
    ACalls Try.prog w0 86 [.pointer (adr A o), .int .i64 (m : Int)] H K := by
  have hk : s.kind = 1 ∨ s.kind = 2 ∨ s.kind = 3 ∨ s.kind = 4 ∨ s.kind = 5 ∨ s.kind = 6 ∨ s.kind = 7 ∨ (¬ s.kind = 1 ∧ ¬ s.kind = 2 ∧ ¬ s.kind = 3 ∧ ¬ s.kind = 4 ∧ ¬ s.kind = 5 ∧ ¬ s.kind = 6 ∧ ¬ s.kind = 7) := by omega
  have e1 := emp_eq St s.body
  have e2 := emp_eq St s.els
  have e3 := emp_eq Ex s.e.args
  rcases hk with hk | hk | hk | hk | hk | hk | hk | hk
  · rw [hk] at hp
    refine stmtM1 w0 m hm H K s.var s.box s.e _ _ A o A0 c0 A1 c1 A2 c2 hA hp hE (kb h ?_)
    simp only [stmtV, bx1, stBlock, stSimple, plainE, hk, e1, e2, e3]
    simp
  · rw [hk] at hp
    refine stmtM2 w0 m hm H K s.var s.box s.e _ _ A o A0 c0 A1 c1 A2 c2 hA hp hE (kb h ?_)
    simp only [stmtV, bx1, stBlock, stSimple, plainE, hk, e1, e2, e3]
    simp
  · rw [hk] at hp
    refine stmtM3 w0 m hm H K s.var s.box s.e _ _ A o A0 c0 A1 c1 A2 c2 hA hp hE (kb h ?_)
    simp only [stmtV, bx1, stBlock, stSimple, plainE, hk, e1, e2, e3]
    simp
  · rw [hk] at hp
    refine stmtM4 w0 m hm H K s.var s.box s.e _ _ A o A0 c0 A1 c1 A2 c2 hA hp hE (kb h ?_)
    have hb : (decide (s.box ≤ 2) && decide (s.box < (m : Int))) = decide (s.box < (m : Int)) := by
      by_cases h1 : s.box < (m : Int)
      · have : s.box ≤ 2 := by omega
        simp [h1, this]
      · simp [h1]
    rw [← hb]
    simp only [stmtV, bx1, stSimple, plainE, hk, e1, e2, e3]
    generalize decide (s.box ≤ 2) = u1, decide (s.box < (m : Int)) = u2
    simp
    try (cases u1 <;> cases u2 <;> simp)
  · rw [hk] at hp
    refine stmtM5 w0 m hm H K s.var s.box s.e _ _ A o A0 c0 A1 c1 A2 c2 hA hp hE (kb h ?_)
    have hb : (decide (s.box ≤ 2) && decide (s.box < (m : Int))) = decide (s.box < (m : Int)) := by
      by_cases h1 : s.box < (m : Int)
      · have : s.box ≤ 2 := by omega
        simp [h1, this]
      · simp [h1]
    rw [← hb]
    simp only [stmtV, bx1, stSimple, plainE, hk, e1, e2, e3]
    generalize decide (s.box ≤ 2) = u1, decide (s.box < (m : Int)) = u2
    simp
    try (cases u1 <;> cases u2 <;> simp)
  · rw [hk] at hp
    refine stmtM6 w0 m hm H K s.var s.box s.e _ _ A o A0 c0 A1 c1 A2 c2 hA hp hE (kb h ?_)
    simp only [stmtV, bx1, stBlock, stSimple, plainE, hk, e1, e2, e3]
    simp
  · rw [hk] at hp
    refine stmtM7 w0 m hm H K s.var s.box s.e _ _ A o A0 c0 A1 c1 A2 c2 hA hp hE (kb h ?_)
    simp only [stmtV, bx1, stBlock, stSimple, plainE, hk, e1, e2, e3]
    simp
  · refine stmtM0 w0 m H K s.kind s.var s.box s.e _ _ A o A0 c0 A1 c1 A2 c2 hA hp hE hk (kb h ?_)
    obtain ⟨k1, k2, k3, k4, k5, k6, k7⟩ := hk
    simp [stmtV, stSimple, k1, k2, k3, k4, k5, k6, k7]
end Go.Proofs.Ytjhedgoafkabiaa
namespace Go.Proofs.Ytjhedgoafkabiaa
set_option linter.all false
open Go Go.RowKit
set_option maxRecDepth 100000
variable (w0 : World) (m : Nat) (hm : m ≤ 3)
theorem okM_of {m d : Nat} {s : St} (h : okM m d s = true) : (stmtV s && bx1 m s) = true := by
  simp only [okM, bxS_eq, Bool.and_eq_true] at h ⊢
  exact ⟨stmtV_of h.1, h.2.1.1⟩
theorem okM_block {m d : Nat} {s : St} (h2 : s.kind = 2 ∨ s.kind = 3) : okM m (d + 1) s = (stBlock s && s.body.all (okM m d) && s.els.all (okM m d)) := by
  have e : bx1 m s = true := by
    have : s.kind ≠ 4 ∧ s.kind ≠ 5 := by omega
    simp [bx1, this]
  rw [okM, ok_of_block h2, bxS_eq, e, okM_all, okM_all, bxL_all, bxL_all]
  cases stBlock s <;> cases s.body.all (stOk d) <;> cases s.els.all (stOk d) <;> cases s.body.all (bxS m) <;> cases s.els.all (bxS m) <;> rfl
theorem okM_simple {m d : Nat} {s : St} (h2 : ¬ (s.kind = 2 ∨ s.kind = 3)) (h : stSimple s = true) (hb : bx1 m s = true) : okM m d s = true := by
  have h' := h
  simp only [stSimple, Bool.and_eq_true, List.isEmpty_iff] at h'
  rw [okM, ok_of_simple h2, h, bxS_eq, hb, h'.1.1, h'.1.2]; rfl
theorem all_falseM {m d : Nat} {ss : List St} {k : Nat} (hk : k < ss.length) (h : okM m d ss[k] = false) : ss.all (okM m d) = false := by
  rw [List.all_eq_false]
  exact ⟨_, List.getElem_mem hk, by simp [h]⟩
abbrev BmP (d bl : Nat) : Prop := ∀ (ss : List St) (A : Option Addr) (c y q : Nat) (D : AHeap) (K : Value → AHeap → Prop), D y = none → cntL ss ≤ 1048576 → q ≤ 16 → StR D ss A 0 →
  (∀ (r : Bool) (q' : Int), r = (ss.all (okM m d) && decide (q + cntL ss ≤ 16)) → (r = true → q' = ((q + cntL ss : Nat) : Int)) → K (.bool r) (D.set y (ck q'))) →
  ACalls Try.prog w0 74 [.slice A ss.length c, .int .i64 (m : Int), .int .i64 bl, .pointer (some ⟨y, 0, none⟩)] (D.set y (ck q)) K
include hm in
theorem bmP_of (d bl : Nat) (hb3 : bl + d = 3) (ih : ∀ d', d = d' + 1 → BmP w0 m d' (bl + 1)) : BmP w0 m d bl := by
  intro ss A c y q D K hy hc hq hR h
  have hl := cntL_len ss
  have w1 := nat_add (a := q) (b := ss.length) (by omega)
  refine acalls_of_sx mix Try.func74 of74 (by simp [ir74]) ?_; rw [ir74]; (try delta qT qI qC qO qM qG)
  by_cases hbig : 16 < q + ss.length
  · have g0 : decide (((q + ss.length : Nat) : Int) > 16) = true := by simp; omega
    repeat' (first | simp -implicitDefEqProofs only [zG1,zG2,zG3,zG4,zG5,zG6,zG7,eq_self,resV,rval,X.val,binv,fillL,setR,↓reduceIte,Nat.reduceEqDiff,Nat.reduceAdd,Nat.reduceMul,Nat.reduceLeDiff,Nat.reduceLT,Nat.reduceSub,reduceCtorEq,zGq, w1, g0] | ((with_reducible refine rows_intro (fun _ hb => ?_)); try simp only [set_none, ne_eq] at hb) | ((with_reducible refine new_intro (fun _ hb => ?_)); try simp only [set_none, ne_eq] at hb) | (with_reducible refine draw_same ?_) | ((with_reducible refine gd_split ?_ (fun _ => ?_) (fun _ => ?_)); exact rfl) | ((with_reducible refine td_split ?_ (fun _ => ?_) (fun _ => ?_)); exact rfl) | (with_reducible refine c_split (fun _ => ?_) (fun _ => ?_)))
    refine ret_same (h false _ ?_ (fun e => by cases e))
    have : ¬ q + cntL ss ≤ 16 := by omega
    simp [this]
  · have g0 : decide (((q + ss.length : Nat) : Int) > 16) = false := by simp; omega
    repeat' (first | simp -implicitDefEqProofs only [zG1,zG2,zG3,zG4,zG5,zG6,zG7,eq_self,resV,rval,X.val,binv,fillL,setR,↓reduceIte,Nat.reduceEqDiff,Nat.reduceAdd,Nat.reduceMul,Nat.reduceLeDiff,Nat.reduceLT,Nat.reduceSub,reduceCtorEq,zGq, w1, g0] | ((with_reducible refine rows_intro (fun _ hb => ?_)); try simp only [set_none, ne_eq] at hb) | ((with_reducible refine new_intro (fun _ hb => ?_)); try simp only [set_none, ne_eq] at hb) | (with_reducible refine draw_same ?_) | ((with_reducible refine gd_split ?_ (fun _ => ?_) (fun _ => ?_)); exact rfl) | ((with_reducible refine td_split ?_ (fun _ => ?_) (fun _ => ?_)); exact rfl) | (with_reducible refine c_split (fun _ => ?_) (fun _ => ?_)))
    refine for_rule ss.length (fun k fr C => C = D.set y (ck ((q + ss.length + (cntL (ss.take k) - k) : Nat) : Int)) ∧ q + ss.length + (cntL (ss.take k) - k) ≤ 16 ∧ (∀ i (hi : i < ss.length), i < k → okM m d ss[i] = true) ∧
        fr 0 = .slice A ss.length c ∧ fr 1 = .int .i64 (m : Int) ∧ fr 2 = .int .i64 bl ∧ fr 3 = .pointer (some ⟨y, 0, none⟩) ∧ fr 23 = .int .i64 ss.length ∧ fr 24 = .int .i64 k)
      ⟨by simp [cntL], by simp [cntL]; omega, fun i hi hk => by omega, (by first | rfl | (simp only [put_at, ↓reduceIte, Nat.reduceEqDiff]; first | done | rfl | assumption) | simp [put_at, *]), (by first | rfl | (simp only [put_at, ↓reduceIte, Nat.reduceEqDiff]; first | done | rfl | assumption) | simp [put_at, *]), (by first | rfl | (simp only [put_at, ↓reduceIte, Nat.reduceEqDiff]; first | done | rfl | assumption) | simp [put_at, *]), (by first | rfl | (simp only [put_at, ↓reduceIte, Nat.reduceEqDiff]; first | done | rfl | assumption) | simp [put_at, *]), (by first | rfl | (simp only [put_at, ↓reduceIte, Nat.reduceEqDiff]; first | done | rfl | assumption) | simp [put_at, *]), (by first | rfl | (simp only [put_at, ↓reduceIte, Nat.reduceEqDiff]; first | done | rfl | assumption) | simp [put_at, *])⟩ ?_ ?_
    · rintro k fr _ hk ⟨rfl, hq2, hok, f0, f1, f2, f3, f23, f24⟩ N hN
      have g3 := lt_dec hk
      have g1 := rng hk
      have g2 := up1 hk (by omega)
      have hge := cntL_ge ss (k + 1) (by omega)
      have htk := cntL_take hk
      have hlk : k ≤ cntL (ss.take k) := by
        have := cntL_len (ss.take k)
        rw [List.length_take] at this; omega
      have hcs := ss[k].cnt_eq
      have gbl : decide ((bl : Int) > 3) = false := by simp; omega
      generalize hqk : q + ss.length + (cntL (ss.take k) - k) = qk at *
      have ly := (AHeap.le.refl D).fresh hy (ck (qk : Int))
      obtain ⟨gA, a0, d0, a1, d1, a2, d2, gp0, hx⟩ := hR.arg hk
      have gp := gp0.le ly
      have hxC := hx.le ly
      obtain ⟨hE, ⟨hb1, hbR⟩, hl1, hlR⟩ := hx.parts
      obtain ⟨hEC, -, -⟩ := hxC.parts
      cases hv : (stmtV ss[k] && bx1 m ss[k]) with
      | false =>
        have hno : okM m d ss[k] = false := by
          cases hs : okM m d ss[k] with
          | false => rfl
          | true => rw [okM_of hs] at hv; cases hv
        repeat' (first | simp -implicitDefEqProofs only [zG1,zG2,zG3,zG4,zG5,zG6,zG7,eq_self,resV,rval,X.val,binv,fillL,setR,↓reduceIte,Nat.reduceEqDiff,Nat.reduceAdd,Nat.reduceMul,Nat.reduceLeDiff,Nat.reduceLT,Nat.reduceSub,reduceCtorEq,zGq, f0, f1, f2, f3, f23, f24, g3, g1, gA, hv] | ((with_reducible refine rows_intro (fun _ hb => ?_)); try simp only [set_none, ne_eq] at hb) | ((with_reducible refine new_intro (fun _ hb => ?_)); try simp only [set_none, ne_eq] at hb) | (with_reducible refine draw_same ?_) | ((with_reducible refine gd_split ?_ (fun _ => ?_) (fun _ => ?_)); exact rfl) | ((with_reducible refine td_split ?_ (fun _ => ?_) (fun _ => ?_)); exact rfl) | (with_reducible refine c_split (fun _ => ?_) (fun _ => ?_)) | (with_reducible refine stmtValidM_ok _ m hm _ _ ss[k] A (k * 8) a0 d0 a1 d1 a2 d2 gA gp hEC ?_))
        exact ret_same (h false _ (by rw [all_falseM hk hno]; rfl) (fun e => by cases e))
      | true =>
        by_cases hkd : ss[k].kind = 2 ∨ ss[k].kind = 3
        · cases d with
          | zero =>
            have hno : okM m 0 ss[k] = false := by simp only [okM, stOk]; rw [if_pos hkd]; rfl
            have gb3 : decide ((bl : Int) ≥ 3) = true := by simp; omega
            rcases hkd with e2 | e2
            all_goals
              have hk2 : (ss[k].kind == 2) = decide (ss[k].kind = 2) := rfl
              rw [e2] at gp
              repeat' (first | simp -implicitDefEqProofs only [zG1,zG2,zG3,zG4,zG5,zG6,zG7,eq_self,resV,rval,X.val,binv,fillL,setR,↓reduceIte,Nat.reduceEqDiff,Nat.reduceAdd,Nat.reduceMul,Nat.reduceLeDiff,Nat.reduceLT,Nat.reduceSub,reduceCtorEq,zGq, f0, f1, f2, f3, f23, f24, g3, g1, gA, gp, hv, gbl, gb3, Int.reduceBEq, Int.reduceBNe, bne_self_eq_false] | ((with_reducible refine rows_intro (fun _ hb => ?_)); try simp only [set_none, ne_eq] at hb) | ((with_reducible refine new_intro (fun _ hb => ?_)); try simp only [set_none, ne_eq] at hb) | (with_reducible refine draw_same ?_) | ((with_reducible refine gd_split ?_ (fun _ => ?_) (fun _ => ?_)); exact rfl) | ((with_reducible refine td_split ?_ (fun _ => ?_) (fun _ => ?_)); exact rfl) | (with_reducible refine c_split (fun _ => ?_) (fun _ => ?_)) | (with_reducible refine stmtValidM_ok _ m hm _ _ ss[k] A (k * 8) a0 d0 a1 d1 a2 d2 gA (gp0.le ly) hEC ?_))
              exact ret_same (h false _ (by rw [all_falseM hk hno]; rfl) (fun e => by cases e))
          | succ d' =>
            have ihd := ih d' rfl
            have gb3 : decide ((bl : Int) ≥ 3) = false := by simp; omega
            have gb1 := nat_up (a := bl) (by omega)
            have hokb := okM_block (m := m) (d := d') hkd
            have hsb : stBlock ss[k] = true := by
              simp only [stmtV, if_pos hkd, Bool.and_eq_true] at hv
              exact hv.1
            have hno : ∀ r1 : Bool, r1 = false → (r1 = (ss[k].body.all (okM m d') && decide (qk + cntL ss[k].body ≤ 16))) → (ss.all (okM m (d' + 1)) && decide (q + cntL ss ≤ 16)) = false := by
              intro r1 e1 e2
              subst e1
              cases hb : ss[k].body.all (okM m d') with
              | false => rw [all_falseM hk (by rw [hokb, hb]; simp)]; rfl
              | true =>
                have : ¬ q + cntL ss ≤ 16 := by
                  rw [hb] at e2
                  simp at e2
                  omega
                simp [this]
            have hno2 : ∀ r1 : Bool, r1 = false → (r1 = (ss[k].els.all (okM m d') && decide (qk + cntL ss[k].body + cntL ss[k].els ≤ 16))) → (ss.all (okM m (d' + 1)) && decide (q + cntL ss ≤ 16)) = false := by
              intro r1 e1 e2
              subst e1
              cases hb : ss[k].els.all (okM m d') with
              | false => rw [all_falseM hk (by rw [hokb, hb]; simp)]; rfl
              | true =>
                have : ¬ q + cntL ss ≤ 16 := by
                  rw [hb] at e2
                  simp at e2
                  omega
                simp [this]
            have fin : ∀ (fr' : Fr), (ss[k].body.all (okM m d')) = true → (ss[k].els.all (okM m d')) = true → qk + cntL ss[k].body + cntL ss[k].els ≤ 16 → fr' 0 = .slice A ss.length c → fr' 1 = .int .i64 (m : Int) → fr' 2 = .int .i64 bl → fr' 3 = .pointer (some ⟨y, 0, none⟩) → fr' 23 = .int .i64 ss.length → fr' 24 = .int .i64 ((k + 1 : Nat) : Int) →
                N fr' (D.set y (ck ((qk + cntL ss[k].body + cntL ss[k].els : Nat) : Int))) := by
              intro fr' hb1 hb2 hle h0 h1 h2 h3 h23 h24
              refine hN _ _ _ (.refl _) ⟨?_, by omega, fun i hi hik => ?_, h0, h1, h2, h3, h23, h24⟩
              · rw [show q + ss.length + (cntL (ss.take (k + 1)) - (k + 1)) = qk + cntL ss[k].body + cntL ss[k].els by omega]
              · rcases Nat.lt_succ_iff_lt_or_eq.1 hik with hik | rfl
                · exact hok i hi hik
                · rw [hokb, hsb, hb1, hb2]; rfl
            rcases hkd with e2 | e2
            all_goals
              rw [e2] at gp
              repeat' (first | simp -implicitDefEqProofs only [zG1,zG2,zG3,zG4,zG5,zG6,zG7,eq_self,resV,rval,X.val,binv,fillL,setR,↓reduceIte,Nat.reduceEqDiff,Nat.reduceAdd,Nat.reduceMul,Nat.reduceLeDiff,Nat.reduceLT,Nat.reduceSub,reduceCtorEq,zGq, f0, f1, f2, f3, f23, f24, g3, g1, gA, gp, hv, gbl, gb3, gb1, Int.reduceBEq, Int.reduceBNe, bne_self_eq_false] | ((with_reducible refine rows_intro (fun _ hb => ?_)); try simp only [set_none, ne_eq] at hb) | ((with_reducible refine new_intro (fun _ hb => ?_)); try simp only [set_none, ne_eq] at hb) | (with_reducible refine draw_same ?_) | ((with_reducible refine gd_split ?_ (fun _ => ?_) (fun _ => ?_)); exact rfl) | ((with_reducible refine td_split ?_ (fun _ => ?_) (fun _ => ?_)); exact rfl) | (with_reducible refine c_split (fun _ => ?_) (fun _ => ?_)) | (with_reducible refine stmtValidM_ok _ m hm _ _ ss[k] A (k * 8) a0 d0 a1 d1 a2 d2 gA (gp0.le ly) hEC ?_))
              refine ihd ss[k].body a1 d1 y qk D _ hy (by omega) hq2 hbR (fun r1 q1 hr1 hq1 => ?_)
              have gp1 := gp0.le ((AHeap.le.refl D).fresh hy (ck q1))
              rw [e2] at gp1
              cases r1 with
              | false =>
                repeat' (first | simp -implicitDefEqProofs only [zG1,zG2,zG3,zG4,zG5,zG6,zG7,eq_self,resV,rval,X.val,binv,fillL,setR,↓reduceIte,Nat.reduceEqDiff,Nat.reduceAdd,Nat.reduceMul,Nat.reduceLeDiff,Nat.reduceLT,Nat.reduceSub,reduceCtorEq,zGq, f0, f1, f2, f3, f23, f24, gp1] | ((with_reducible refine rows_intro (fun _ hb => ?_)); try simp only [set_none, ne_eq] at hb) | ((with_reducible refine new_intro (fun _ hb => ?_)); try simp only [set_none, ne_eq] at hb) | (with_reducible refine draw_same ?_) | ((with_reducible refine gd_split ?_ (fun _ => ?_) (fun _ => ?_)); exact rfl) | ((with_reducible refine td_split ?_ (fun _ => ?_) (fun _ => ?_)); exact rfl) | (with_reducible refine c_split (fun _ => ?_) (fun _ => ?_)))
                exact ret_same (h false _ (hno false rfl hr1).symm (fun e => by cases e))
              | true =>
                obtain rfl := hq1 rfl
                have hr1' := hr1.symm
                simp only [Bool.and_eq_true, decide_eq_true_eq] at hr1'
                repeat' (first | simp -implicitDefEqProofs only [zG1,zG2,zG3,zG4,zG5,zG6,zG7,eq_self,resV,rval,X.val,binv,fillL,setR,↓reduceIte,Nat.reduceEqDiff,Nat.reduceAdd,Nat.reduceMul,Nat.reduceLeDiff,Nat.reduceLT,Nat.reduceSub,reduceCtorEq,zGq, f0, f1, f2, f3, f23, f24, gA, gp1, gb1] | ((with_reducible refine rows_intro (fun _ hb => ?_)); try simp only [set_none, ne_eq] at hb) | ((with_reducible refine new_intro (fun _ hb => ?_)); try simp only [set_none, ne_eq] at hb) | (with_reducible refine draw_same ?_) | ((with_reducible refine gd_split ?_ (fun _ => ?_) (fun _ => ?_)); exact rfl) | ((with_reducible refine td_split ?_ (fun _ => ?_) (fun _ => ?_)); exact rfl) | (with_reducible refine c_split (fun _ => ?_) (fun _ => ?_)))
                refine ihd ss[k].els a2 d2 y (qk + cntL ss[k].body) D _ hy (by omega) hr1'.2 hlR (fun r2 q2 hr2 hq2 => ?_)
                cases r2 with
                | false =>
                  repeat' (first | simp -implicitDefEqProofs only [zG1,zG2,zG3,zG4,zG5,zG6,zG7,eq_self,resV,rval,X.val,binv,fillL,setR,↓reduceIte,Nat.reduceEqDiff,Nat.reduceAdd,Nat.reduceMul,Nat.reduceLeDiff,Nat.reduceLT,Nat.reduceSub,reduceCtorEq,zGq, f0, f1, f2, f3, f23, f24] | ((with_reducible refine rows_intro (fun _ hb => ?_)); try simp only [set_none, ne_eq] at hb) | ((with_reducible refine new_intro (fun _ hb => ?_)); try simp only [set_none, ne_eq] at hb) | (with_reducible refine draw_same ?_) | ((with_reducible refine gd_split ?_ (fun _ => ?_) (fun _ => ?_)); exact rfl) | ((with_reducible refine td_split ?_ (fun _ => ?_) (fun _ => ?_)); exact rfl) | (with_reducible refine c_split (fun _ => ?_) (fun _ => ?_)))
                  exact ret_same (h false _ (hno2 false rfl hr2).symm (fun e => by cases e))
                | true =>
                  obtain rfl := hq2 rfl
                  have hr2' := hr2.symm
                  simp only [Bool.and_eq_true, decide_eq_true_eq] at hr2'
                  repeat' (first | simp -implicitDefEqProofs only [zG1,zG2,zG3,zG4,zG5,zG6,zG7,eq_self,resV,rval,X.val,binv,fillL,setR,↓reduceIte,Nat.reduceEqDiff,Nat.reduceAdd,Nat.reduceMul,Nat.reduceLeDiff,Nat.reduceLT,Nat.reduceSub,reduceCtorEq,zGq, f0, f1, f2, f3, f23, f24, g2] | ((with_reducible refine rows_intro (fun _ hb => ?_)); try simp only [set_none, ne_eq] at hb) | ((with_reducible refine new_intro (fun _ hb => ?_)); try simp only [set_none, ne_eq] at hb) | (with_reducible refine draw_same ?_) | ((with_reducible refine gd_split ?_ (fun _ => ?_) (fun _ => ?_)); exact rfl) | ((with_reducible refine td_split ?_ (fun _ => ?_) (fun _ => ?_)); exact rfl) | (with_reducible refine c_split (fun _ => ?_) (fun _ => ?_)))
                  exact fin _ hr1'.1 hr2'.1 hr2'.2 (by first | rfl | (simp only [put_at, ↓reduceIte, Nat.reduceEqDiff]; first | done | rfl | assumption) | simp [put_at, *]) (by first | rfl | (simp only [put_at, ↓reduceIte, Nat.reduceEqDiff]; first | done | rfl | assumption) | simp [put_at, *]) (by first | rfl | (simp only [put_at, ↓reduceIte, Nat.reduceEqDiff]; first | done | rfl | assumption) | simp [put_at, *]) (by first | rfl | (simp only [put_at, ↓reduceIte, Nat.reduceEqDiff]; first | done | rfl | assumption) | simp [put_at, *]) (by first | rfl | (simp only [put_at, ↓reduceIte, Nat.reduceEqDiff]; first | done | rfl | assumption) | simp [put_at, *]) (by first | rfl | (simp only [put_at, ↓reduceIte, Nat.reduceEqDiff]; first | done | rfl | assumption) | simp [put_at, *])
        · have n2 : (ss[k].kind != 2) = true := by simp only [bne_iff_ne, ne_eq]; exact fun e => hkd (.inl e)
          have n3 : (ss[k].kind != 3) = true := by simp only [bne_iff_ne, ne_eq]; exact fun e => hkd (.inr e)
          have hs : stSimple ss[k] = true ∧ bx1 m ss[k] = true := by
            simp only [stmtV, if_neg hkd, Bool.and_eq_true] at hv
            exact hv
          have h1c := simple_cnt hs.1
          repeat' (first | simp -implicitDefEqProofs only [zG1,zG2,zG3,zG4,zG5,zG6,zG7,eq_self,resV,rval,X.val,binv,fillL,setR,↓reduceIte,Nat.reduceEqDiff,Nat.reduceAdd,Nat.reduceMul,Nat.reduceLeDiff,Nat.reduceLT,Nat.reduceSub,reduceCtorEq,zGq, f0, f1, f2, f3, f23, f24, g3, g1, g2, gA, gp, hv, gbl, n2, n3] | ((with_reducible refine rows_intro (fun _ hb => ?_)); try simp only [set_none, ne_eq] at hb) | ((with_reducible refine new_intro (fun _ hb => ?_)); try simp only [set_none, ne_eq] at hb) | (with_reducible refine draw_same ?_) | ((with_reducible refine gd_split ?_ (fun _ => ?_) (fun _ => ?_)); exact rfl) | ((with_reducible refine td_split ?_ (fun _ => ?_) (fun _ => ?_)); exact rfl) | (with_reducible refine c_split (fun _ => ?_) (fun _ => ?_)) | (with_reducible refine stmtValidM_ok _ m hm _ _ ss[k] A (k * 8) a0 d0 a1 d1 a2 d2 gA gp hEC ?_))
          refine hN _ _ _ (.refl _) ⟨?_, by omega, fun i hi hik => ?_, (by first | rfl | (simp only [put_at, ↓reduceIte, Nat.reduceEqDiff]; first | done | rfl | assumption) | simp [put_at, *]), (by first | rfl | (simp only [put_at, ↓reduceIte, Nat.reduceEqDiff]; first | done | rfl | assumption) | simp [put_at, *]), (by first | rfl | (simp only [put_at, ↓reduceIte, Nat.reduceEqDiff]; first | done | rfl | assumption) | simp [put_at, *]), (by first | rfl | (simp only [put_at, ↓reduceIte, Nat.reduceEqDiff]; first | done | rfl | assumption) | simp [put_at, *]), (by first | rfl | (simp only [put_at, ↓reduceIte, Nat.reduceEqDiff]; first | done | rfl | assumption) | simp [put_at, *]), (by first | rfl | (simp only [put_at, ↓reduceIte, Nat.reduceEqDiff]; first | done | rfl | assumption) | simp [put_at, *])⟩
          · rw [show q + ss.length + (cntL (ss.take (k + 1)) - (k + 1)) = qk by omega]
          · rcases Nat.lt_succ_iff_lt_or_eq.1 hik with hik | rfl
            · exact hok i hi hik
            · exact okM_simple hkd hs.1 hs.2
    · rintro fr _ ⟨rfl, hq2, hok, f0, f1, f2, f3, f23, f24⟩ N
      have g3 : decide ((ss.length : Int) < (ss.length : Int)) = false := by simp
      rw [List.take_length] at hq2 ⊢
      repeat' (first | simp -implicitDefEqProofs only [zG1,zG2,zG3,zG4,zG5,zG6,zG7,eq_self,resV,rval,X.val,binv,fillL,setR,↓reduceIte,Nat.reduceEqDiff,Nat.reduceAdd,Nat.reduceMul,Nat.reduceLeDiff,Nat.reduceLT,Nat.reduceSub,reduceCtorEq,zGq, f0, f1, f2, f3, f23, f24, g3] | ((with_reducible refine rows_intro (fun _ hb => ?_)); try simp only [set_none, ne_eq] at hb) | ((with_reducible refine new_intro (fun _ hb => ?_)); try simp only [set_none, ne_eq] at hb) | (with_reducible refine draw_same ?_) | ((with_reducible refine gd_split ?_ (fun _ => ?_) (fun _ => ?_)); exact rfl) | ((with_reducible refine td_split ?_ (fun _ => ?_) (fun _ => ?_)); exact rfl) | (with_reducible refine c_split (fun _ => ?_) (fun _ => ?_)))
      refine ret_same (h true _ ?_ (fun _ => by omega))
      have : q + cntL ss ≤ 16 := by omega
      rw [eq_comm, Bool.and_eq_true, List.all_eq_true]
      refine ⟨fun x hx => ?_, by simpa using this⟩
      obtain ⟨i, hi, rfl⟩ := List.getElem_of_mem hx
      exact hok i hi hi
include hm in
theorem bmP : ∀ d bl, bl + d = 3 → BmP w0 m d bl
  | 0, bl, h => bmP_of w0 m hm 0 bl h fun d' e => by omega
  | d + 1, bl, h => bmP_of w0 m hm (d + 1) bl h fun d' e => by
    obtain rfl : d' = d := (by omega)
    exact bmP d' (bl + 1) (by omega)
include hm in
theorem stmtsValidM_ok (ss : List St) (A : Option Addr) (c : Nat) (H : AHeap) (K : Value → AHeap → Prop) (hc : cntL ss ≤ 1048576) (hR : StR H ss A 0) (h : K (.bool (stsOk ss && bxL m ss)) H) :
    ACalls Try.prog w0 52 [.slice A ss.length c, .int .i64 (m : Int)] H K := by
  refine acalls_of_sx mix Try.func52 of52 (by simp [ir52]) ?_; rw [ir52]; (try delta qT qI qC qO qM qG)
  repeat' (first | simp -implicitDefEqProofs only [zG1,zG2,zG3,zG4,zG5,zG6,zG7,eq_self,resV,rval,X.val,binv,fillL,setR,↓reduceIte,Nat.reduceEqDiff,Nat.reduceAdd,Nat.reduceMul,Nat.reduceLeDiff,Nat.reduceLT,Nat.reduceSub,reduceCtorEq,zGq] | ((with_reducible refine rows_intro (fun _ hb => ?_)); try simp only [set_none, ne_eq] at hb) | ((with_reducible refine new_intro (fun _ hb => ?_)); try simp only [set_none, ne_eq] at hb) | (with_reducible refine draw_same ?_) | ((with_reducible refine gd_split ?_ (fun _ => ?_) (fun _ => ?_)); exact rfl) | ((with_reducible refine td_split ?_ (fun _ => ?_) (fun _ => ?_)); exact rfl) | (with_reducible refine c_split (fun _ => ?_) (fun _ => ?_)))
  rename_i y
  refine bmP w0 m hm 3 0 rfl ss A c y 0 H _ hb hc (by decide) hR (fun r q' hr _ => ?_)
  have e : r = (stsOk ss && bxL m ss) := by
    rw [hr, stsOk, Nat.zero_add, okM_all]
    cases ss.all (stOk 3) <;> cases bxL m ss <;> cases decide (cntL ss ≤ 16) <;> rfl
  subst e
  repeat' (first | simp -implicitDefEqProofs only [zG1,zG2,zG3,zG4,zG5,zG6,zG7,eq_self,resV,rval,X.val,binv,fillL,setR,↓reduceIte,Nat.reduceEqDiff,Nat.reduceAdd,Nat.reduceMul,Nat.reduceLeDiff,Nat.reduceLT,Nat.reduceSub,reduceCtorEq,zGq] | ((with_reducible refine rows_intro (fun _ hb => ?_)); try simp only [set_none, ne_eq] at hb) | ((with_reducible refine new_intro (fun _ hb => ?_)); try simp only [set_none, ne_eq] at hb) | (with_reducible refine draw_same ?_) | ((with_reducible refine gd_split ?_ (fun _ => ?_) (fun _ => ?_)); exact rfl) | ((with_reducible refine td_split ?_ (fun _ => ?_) (fun _ => ?_)); exact rfl) | (with_reducible refine c_split (fun _ => ?_) (fun _ => ?_)))
  exact ⟨H, (AHeap.le.refl H).fresh hb _, h⟩
end Go.Proofs.Ytjhedgoafkabiaa
namespace Go.Proofs.Ytjhedgoafkabiaa
set_option linter.all false
open Go Go.RowKit
set_option maxRecDepth 100000
variable (w0 : World)
theorem fl_eight {A B : AHeap} {t : TypeId} {b : Nat} {x0 x1 x2 x3 x4 x5 x6 x7 : Value} {o : Bool} {c : Nat} (hl : AHeap.le (A.set b ⟨[x0, x1, x2, x3, x4, x5, x6, x7], o, t, c⟩) B) :
    B.cell (some ⟨b, 0, none⟩) = some x0 ∧ B.cell (some ⟨b, 1, none⟩) = some x1 ∧ B.cell (some ⟨b, 2, none⟩) = some x2 ∧ B.cell (some ⟨b, 3, none⟩) = some x3 ∧ B.cell (some ⟨b, 4, none⟩) = some x4 ∧ B.cell (some ⟨b, 5, none⟩) = some x5 ∧ B.cell (some ⟨b, 6, none⟩) = some x6 ∧ B.cell (some ⟨b, 7, none⟩) = some x7 :=
  ⟨hl.cell (by rw [cell_same]; rfl), hl.cell (by rw [cell_same]; rfl), hl.cell (by rw [cell_same]; rfl), hl.cell (by rw [cell_same]; rfl), hl.cell (by rw [cell_same]; rfl), hl.cell (by rw [cell_same]; rfl), hl.cell (by rw [cell_same]; rfl), hl.cell (by rw [cell_same]; rfl)⟩
theorem q_oc (q : Qd) : ∀ v ∈ q.cells, v.oneCell' = true := by simp [ocI]
theorem qcells_cons (q : Qd) (l : List Qd) : qcells (q :: l) = q.cells ++ qcells l := by simp [qcells]
theorem qcells_one' (q : Qd) : qcells [q] = q.cells := by simp [qcells]
theorem emp0 {α : Type} {l : List α} (h : l.isEmpty = true) : (((l.length : Nat) : Int) == 0) = true := by
  cases l with
  | nil => rfl
  | cons x xs => cases h
theorem emp1 {α : Type} {l : List α} (h : l.isEmpty = false) : (((l.length : Nat) : Int) == 0) = false := by
  cases l with
  | nil => cases h
  | cons x xs => simp; omega
/-- l22Expr, as a row over the heap. -/
theorem l22ExprR_ok (e : Ex) (a : Option Addr) (c : Nat) (H : AHeap) (K : Value → AHeap → Prop) (he : exprOk 5 e = true) (hv : ExV H e [.int .i64 e.op, .int .i64 e.n, .slice a e.args.length c])
    (h : ∀ v C, Row H C 33 5 v (compE e).length (qcells (compE e)) → K v C) :
    ACalls Try.prog w0 78 [.agg #[.int .i64 e.op, .int .i64 e.n, .slice a e.args.length c], .int .i64 4] H K :=
  l22Expr_ok w0 5 e a c 4 H K (by decide) he hv (by decide) (by decide) (rw_of fun v C bs l n w => h v C ⟨bs, l, n, w⟩)
abbrev LiP (d : Nat) : Prop := ∀ (ss : List St) (A : Option Addr) (c i : Nat) (H : AHeap) (K : Value → AHeap → Prop), ss.all (stOk d) = true → cntL ss ≤ 1048576 → i ≤ 1099511627776 - 33 * cntL ss → StR H ss A 0 →
  (∀ v C, Row H C 33 5 v (szL ss) (qcells (compL ss i)) → K v C) → ACalls Try.prog w0 38 [.slice A ss.length c, .int .i64 i] H K
abbrev SiP (d : Nat) : Prop := ∀ (s : St) (A0 : Option Addr) (c0 : Nat) (A1 : Option Addr) (c1 : Nat) (A2 : Option Addr) (c2 i : Nat) (H : AHeap) (K : Value → AHeap → Prop), stOk d s = true → s.cnt ≤ 1048576 → i ≤ 1099511627776 - 33 * s.cnt →
  StV H s (stc s.kind s.var s.box s.e s.body.length s.els.length A0 c0 A1 c1 A2 c2) → (∀ v C, Row H C 33 5 v (szS s) (qcells (compS s i)) → K v C) →
  ACalls Try.prog w0 57 [stv s.kind s.var s.box s.e s.body.length s.els.length A0 c0 A1 c1 A2 c2, .int .i64 i] H K
theorem l22If_ok (d : Nat) (ih : LiP w0 d) (k v b : Int) (e : Ex) (body els : List St) (A0 : Option Addr) (c0 : Nat) (A1 : Option Addr) (c1 : Nat) (A2 : Option Addr) (c2 i : Nat) (H : AHeap) (K : Value → AHeap → Prop)
    (he : exprOk 5 e = true) (hbd : body.all (stOk d) = true) (hel' : els.all (stOk d) = true) (hc : cntL body + cntL els < 1048576) (hi : i ≤ 1099511627776 - 33 * (1 + cntL body + cntL els))
    (hE : ExV H e [.int .i64 e.op, .int .i64 e.n, .slice A0 e.args.length c0]) (hB : StR H body A1 0) (hL : StR H els A2 0)
    (h : ∀ v' C, Row H C 33 5 v' (szS (.mk 2 v b e body els)) (qcells (compS (.mk 2 v b e body els) i)) → K v' C) :
    ACalls Try.prog w0 79 [stv k v b e body.length els.length A0 c0 A1 c1 A2 c2, .int .i64 i] H K := by
  have n0 := compE_le e
  have n1 := szL_le body
  have n2 := szL_le els
  refine acalls_of_sx mix Try.func79 of79 (by simp [ir79]) ?_; rw [ir79]; (try delta qT qI qC qO qM qG)
  repeat' (first | simp -implicitDefEqProofs only [zG1,zG2,zG3,zG4,zG5,zG6,zG7,eq_self,resV,rval,X.val,binv,fillL,setR,↓reduceIte,Nat.reduceEqDiff,Nat.reduceAdd,Nat.reduceMul,Nat.reduceLeDiff,Nat.reduceLT,Nat.reduceSub,reduceCtorEq,zGq] | ((with_reducible refine rows_intro (fun _ hb => ?_)); try simp only [set_none, ne_eq] at hb) | ((with_reducible refine new_intro (fun _ hb => ?_)); try simp only [set_none, ne_eq] at hb) | (with_reducible refine draw_same ?_) | ((with_reducible refine gd_split ?_ (fun _ => ?_) (fun _ => ?_)); exact rfl) | ((with_reducible refine td_split ?_ (fun _ => ?_) (fun _ => ?_)); exact rfl) | (with_reducible refine c_split (fun _ => ?_) (fun _ => ?_)))
  rename_i x
  have hx := hb
  have lx := (AHeap.le.refl H).fresh hx ⟨[.int .i64 k, .int .i64 v, .int .i64 b, .int .i64 e.op, .int .i64 e.n, .slice A0 e.args.length c0, .slice A1 body.length c1, .slice A2 els.length c2], true, 63, 8⟩
  refine l22ExprR_ok _ e A0 c0 _ _ he (hE.le lx) (fun v1 C1 r1 => ?_)
  have g1 := fl_eight r1.hle
  obtain ⟨B1, e1, rfl, -⟩ := r1.fl
  have w1 := nat_add (a := i) (b := (compE e).length) (by omega)
  have w2 := nat_up (a := i + (compE e).length) (by omega)
  repeat' (first | simp -implicitDefEqProofs only [zG1,zG2,zG3,zG4,zG5,zG6,zG7,eq_self,resV,rval,X.val,binv,fillL,setR,↓reduceIte,Nat.reduceEqDiff,Nat.reduceAdd,Nat.reduceMul,Nat.reduceLeDiff,Nat.reduceLT,Nat.reduceSub,reduceCtorEq,zGq, g1, w1, w2] | ((with_reducible refine rows_intro (fun _ hb => ?_)); try simp only [set_none, ne_eq] at hb) | ((with_reducible refine new_intro (fun _ hb => ?_)); try simp only [set_none, ne_eq] at hb) | (with_reducible refine draw_same ?_) | ((with_reducible refine gd_split ?_ (fun _ => ?_) (fun _ => ?_)); exact rfl) | ((with_reducible refine td_split ?_ (fun _ => ?_) (fun _ => ?_)); exact rfl) | (with_reducible refine c_split (fun _ => ?_) (fun _ => ?_)) | (with_reducible refine ih body A1 c1 _ _ _ hbd (by omega) (by omega) (hB.le (lx.trans r1.hle)) (fun v2 C2 r2 => ?_)))
  have g2 := fl_eight (r1.hle.trans r2.hle)
  obtain ⟨B2, e2, rfl, -⟩ := r2.fl
  have w3 := nat_add (a := i + (compE e).length + 1) (b := szL body) (by omega)
  cases hel : els.isEmpty with
  | true =>
    have g3 := emp0 hel
    repeat' (first | simp -implicitDefEqProofs only [zG1,zG2,zG3,zG4,zG5,zG6,zG7,eq_self,resV,rval,X.val,binv,fillL,setR,↓reduceIte,Nat.reduceEqDiff,Nat.reduceAdd,Nat.reduceMul,Nat.reduceLeDiff,Nat.reduceLT,Nat.reduceSub,reduceCtorEq,zGq, g2, g3, w1, w2, w3] | ((with_reducible refine rows_intro (fun _ hb => ?_)); try simp only [set_none, ne_eq] at hb) | ((with_reducible refine new_intro (fun _ hb => ?_)); try simp only [set_none, ne_eq] at hb) | (with_reducible refine draw_same ?_) | ((with_reducible refine gd_split ?_ (fun _ => ?_) (fun _ => ?_)); exact rfl) | ((with_reducible refine td_split ?_ (fun _ => ?_) (fun _ => ?_)); exact rfl) | (with_reducible refine c_split (fun _ => ?_) (fun _ => ?_)))
    obtain ⟨D, lD, lD2, rD, kp⟩ := r1.cut r2.hle
    have r2' := kp _ _ _ _ _ r2
    refine rD.app1 (m := 1) ‹_› rfl (by simp [ocI]) (by simp only [maxLen]; omega) (by omega) (fun v3 C3 r3 => ?_)
    repeat' (first | simp -implicitDefEqProofs only [zG1,zG2,zG3,zG4,zG5,zG6,zG7,eq_self,resV,rval,X.val,binv,fillL,setR,↓reduceIte,Nat.reduceEqDiff,Nat.reduceAdd,Nat.reduceMul,Nat.reduceLeDiff,Nat.reduceLT,Nat.reduceSub,reduceCtorEq,zGq, g2, g3, w1, w2, w3] | ((with_reducible refine rows_intro (fun _ hb => ?_)); try simp only [set_none, ne_eq] at hb) | ((with_reducible refine new_intro (fun _ hb => ?_)); try simp only [set_none, ne_eq] at hb) | (with_reducible refine draw_same ?_) | ((with_reducible refine gd_split ?_ (fun _ => ?_) (fun _ => ?_)); exact rfl) | ((with_reducible refine td_split ?_ (fun _ => ?_) (fun _ => ?_)); exact rfl) | (with_reducible refine c_split (fun _ => ?_) (fun _ => ?_)))
    have r2'' := r2'.le r3.hle
    have f2 := r2''.fl'.1
    refine r3.app f2 (by rw [qcells_len, compL_len]; rfl) (qcells_oc _) (by simp only [maxLen]; omega) (by omega) (fun v4 C4 r4 => ?_)
    repeat' (first | simp -implicitDefEqProofs only [zG1,zG2,zG3,zG4,zG5,zG6,zG7,eq_self,resV,rval,X.val,binv,fillL,setR,↓reduceIte,Nat.reduceEqDiff,Nat.reduceAdd,Nat.reduceMul,Nat.reduceLeDiff,Nat.reduceLT,Nat.reduceSub,reduceCtorEq,zGq] | ((with_reducible refine rows_intro (fun _ hb => ?_)); try simp only [set_none, ne_eq] at hb) | ((with_reducible refine new_intro (fun _ hb => ?_)); try simp only [set_none, ne_eq] at hb) | (with_reducible refine draw_same ?_) | ((with_reducible refine gd_split ?_ (fun _ => ?_) (fun _ => ?_)); exact rfl) | ((with_reducible refine td_split ?_ (fun _ => ?_) (fun _ => ?_)); exact rfl) | (with_reducible refine c_split (fun _ => ?_) (fun _ => ?_)))
    refine ret_same (h _ _ ?_)
    have r5 := r4.base (lx.trans lD)
    simp only [szS, compS, hel, if_true, Nat.add_zero, qcells_app, qcells_cons]
    simp only [List.append_assoc] at r5 ⊢
    exact r5
  | false =>
    have g3 := emp1 hel
    have w4 := nat_up (a := i + (compE e).length + 1 + szL body) (by omega)
    repeat' (first | simp -implicitDefEqProofs only [zG1,zG2,zG3,zG4,zG5,zG6,zG7,eq_self,resV,rval,X.val,binv,fillL,setR,↓reduceIte,Nat.reduceEqDiff,Nat.reduceAdd,Nat.reduceMul,Nat.reduceLeDiff,Nat.reduceLT,Nat.reduceSub,reduceCtorEq,zGq, g2, g3, w1, w2, w3, w4] | ((with_reducible refine rows_intro (fun _ hb => ?_)); try simp only [set_none, ne_eq] at hb) | ((with_reducible refine new_intro (fun _ hb => ?_)); try simp only [set_none, ne_eq] at hb) | (with_reducible refine draw_same ?_) | ((with_reducible refine gd_split ?_ (fun _ => ?_) (fun _ => ?_)); exact rfl) | ((with_reducible refine td_split ?_ (fun _ => ?_) (fun _ => ?_)); exact rfl) | (with_reducible refine c_split (fun _ => ?_) (fun _ => ?_)) | (with_reducible refine ih els A2 c2 _ _ _ hel' (by omega) (by omega) (hL.le (lx.trans (r1.hle.trans r2.hle))) (fun v3 C3 r3 => ?_)))
    obtain ⟨B3, e3, rfl, -⟩ := r3.fl
    have w5 := nat_add (a := i + (compE e).length + 1 + szL body + 1) (b := szL els) (by omega)
    repeat' (first | simp -implicitDefEqProofs only [zG1,zG2,zG3,zG4,zG5,zG6,zG7,eq_self,resV,rval,X.val,binv,fillL,setR,↓reduceIte,Nat.reduceEqDiff,Nat.reduceAdd,Nat.reduceMul,Nat.reduceLeDiff,Nat.reduceLT,Nat.reduceSub,reduceCtorEq,zGq, g3, w1, w2, w3, w4, w5] | ((with_reducible refine rows_intro (fun _ hb => ?_)); try simp only [set_none, ne_eq] at hb) | ((with_reducible refine new_intro (fun _ hb => ?_)); try simp only [set_none, ne_eq] at hb) | (with_reducible refine draw_same ?_) | ((with_reducible refine gd_split ?_ (fun _ => ?_) (fun _ => ?_)); exact rfl) | ((with_reducible refine td_split ?_ (fun _ => ?_) (fun _ => ?_)); exact rfl) | (with_reducible refine c_split (fun _ => ?_) (fun _ => ?_)))
    obtain ⟨D, lD, lD2, rD, kp⟩ := r1.cut r2.hle
    have r2' := kp _ _ _ _ _ r2
    obtain ⟨D', lD', lD2', rD', kp'⟩ := r1.cut (r2.hle.trans r3.hle)
    have r3' := kp' _ _ _ _ _ (r3.base r2.hle)
    have r2a := kp' _ _ _ _ _ (r2.le r3.hle)
    refine rD'.app1 (m := 1) ‹_› rfl (by simp [ocI]) (by simp only [maxLen]; omega) (by omega) (fun v4 C4 r4 => ?_)
    repeat' (first | simp -implicitDefEqProofs only [zG1,zG2,zG3,zG4,zG5,zG6,zG7,eq_self,resV,rval,X.val,binv,fillL,setR,↓reduceIte,Nat.reduceEqDiff,Nat.reduceAdd,Nat.reduceMul,Nat.reduceLeDiff,Nat.reduceLT,Nat.reduceSub,reduceCtorEq,zGq, g3, w1, w2, w3, w4, w5] | ((with_reducible refine rows_intro (fun _ hb => ?_)); try simp only [set_none, ne_eq] at hb) | ((with_reducible refine new_intro (fun _ hb => ?_)); try simp only [set_none, ne_eq] at hb) | (with_reducible refine draw_same ?_) | ((with_reducible refine gd_split ?_ (fun _ => ?_) (fun _ => ?_)); exact rfl) | ((with_reducible refine td_split ?_ (fun _ => ?_) (fun _ => ?_)); exact rfl) | (with_reducible refine c_split (fun _ => ?_) (fun _ => ?_)))
    refine r4.app (r2a.le r4.hle).fl'.1 (by rw [qcells_len, compL_len]; rfl) (qcells_oc _) (by simp only [maxLen]; omega) (by omega) (fun v5 C5 r5 => ?_)
    repeat' (first | simp -implicitDefEqProofs only [zG1,zG2,zG3,zG4,zG5,zG6,zG7,eq_self,resV,rval,X.val,binv,fillL,setR,↓reduceIte,Nat.reduceEqDiff,Nat.reduceAdd,Nat.reduceMul,Nat.reduceLeDiff,Nat.reduceLT,Nat.reduceSub,reduceCtorEq,zGq, g3, w1, w2, w3, w4, w5] | ((with_reducible refine rows_intro (fun _ hb => ?_)); try simp only [set_none, ne_eq] at hb) | ((with_reducible refine new_intro (fun _ hb => ?_)); try simp only [set_none, ne_eq] at hb) | (with_reducible refine draw_same ?_) | ((with_reducible refine gd_split ?_ (fun _ => ?_) (fun _ => ?_)); exact rfl) | ((with_reducible refine td_split ?_ (fun _ => ?_) (fun _ => ?_)); exact rfl) | (with_reducible refine c_split (fun _ => ?_) (fun _ => ?_)))
    refine r5.app1 (m := 1) ‹_› rfl (by simp [ocI]) (by simp only [maxLen]; omega) (by omega) (fun v6 C6 r6 => ?_)
    repeat' (first | simp -implicitDefEqProofs only [zG1,zG2,zG3,zG4,zG5,zG6,zG7,eq_self,resV,rval,X.val,binv,fillL,setR,↓reduceIte,Nat.reduceEqDiff,Nat.reduceAdd,Nat.reduceMul,Nat.reduceLeDiff,Nat.reduceLT,Nat.reduceSub,reduceCtorEq,zGq, g3, w1, w2, w3, w4, w5] | ((with_reducible refine rows_intro (fun _ hb => ?_)); try simp only [set_none, ne_eq] at hb) | ((with_reducible refine new_intro (fun _ hb => ?_)); try simp only [set_none, ne_eq] at hb) | (with_reducible refine draw_same ?_) | ((with_reducible refine gd_split ?_ (fun _ => ?_) (fun _ => ?_)); exact rfl) | ((with_reducible refine td_split ?_ (fun _ => ?_) (fun _ => ?_)); exact rfl) | (with_reducible refine c_split (fun _ => ?_) (fun _ => ?_)))
    refine r6.app (r3'.le r6.hle).fl'.1 (by rw [qcells_len, compL_len]; rfl) (qcells_oc _) (by simp only [maxLen]; omega) (by omega) (fun v7 C7 r7 => ?_)
    repeat' (first | simp -implicitDefEqProofs only [zG1,zG2,zG3,zG4,zG5,zG6,zG7,eq_self,resV,rval,X.val,binv,fillL,setR,↓reduceIte,Nat.reduceEqDiff,Nat.reduceAdd,Nat.reduceMul,Nat.reduceLeDiff,Nat.reduceLT,Nat.reduceSub,reduceCtorEq,zGq] | ((with_reducible refine rows_intro (fun _ hb => ?_)); try simp only [set_none, ne_eq] at hb) | ((with_reducible refine new_intro (fun _ hb => ?_)); try simp only [set_none, ne_eq] at hb) | (with_reducible refine draw_same ?_) | ((with_reducible refine gd_split ?_ (fun _ => ?_) (fun _ => ?_)); exact rfl) | ((with_reducible refine td_split ?_ (fun _ => ?_) (fun _ => ?_)); exact rfl) | (with_reducible refine c_split (fun _ => ?_) (fun _ => ?_)))
    refine ret_same (h _ _ ?_)
    have r8 := r7.base (lx.trans lD')
    simp only [szS, compS, hel, if_true, Bool.false_eq_true, if_false, qcells_app, qcells_cons]
    simp only [List.append_assoc, Nat.add_assoc] at r8 ⊢
    exact r8
theorem l22While_ok (d : Nat) (ih : LiP w0 d) (k v b : Int) (e : Ex) (body els : List St) (A0 : Option Addr) (c0 : Nat) (A1 : Option Addr) (c1 : Nat) (A2 : Option Addr) (c2 i : Nat) (H : AHeap) (K : Value → AHeap → Prop)
    (he : exprOk 5 e = true) (hbd : body.all (stOk d) = true) (hc : cntL body < 1048576) (hi : i ≤ 1099511627776 - 33 * (1 + cntL body))
    (hE : ExV H e [.int .i64 e.op, .int .i64 e.n, .slice A0 e.args.length c0]) (hB : StR H body A1 0)
    (h : ∀ v' C, Row H C 33 5 v' (szS (.mk 3 v b e body els)) (qcells (compS (.mk 3 v b e body els) i)) → K v' C) :
    ACalls Try.prog w0 80 [stv k v b e body.length els.length A0 c0 A1 c1 A2 c2, .int .i64 i] H K := by
  have n0 := compE_le e
  have n1 := szL_le body
  refine acalls_of_sx mix Try.func80 of80 (by simp [ir80]) ?_; rw [ir80]; (try delta qT qI qC qO qM qG)
  repeat' (first | simp -implicitDefEqProofs only [zG1,zG2,zG3,zG4,zG5,zG6,zG7,eq_self,resV,rval,X.val,binv,fillL,setR,↓reduceIte,Nat.reduceEqDiff,Nat.reduceAdd,Nat.reduceMul,Nat.reduceLeDiff,Nat.reduceLT,Nat.reduceSub,reduceCtorEq,zGq] | ((with_reducible refine rows_intro (fun _ hb => ?_)); try simp only [set_none, ne_eq] at hb) | ((with_reducible refine new_intro (fun _ hb => ?_)); try simp only [set_none, ne_eq] at hb) | (with_reducible refine draw_same ?_) | ((with_reducible refine gd_split ?_ (fun _ => ?_) (fun _ => ?_)); exact rfl) | ((with_reducible refine td_split ?_ (fun _ => ?_) (fun _ => ?_)); exact rfl) | (with_reducible refine c_split (fun _ => ?_) (fun _ => ?_)))
  rename_i x
  have hx := hb
  have lx := (AHeap.le.refl H).fresh hx ⟨[.int .i64 k, .int .i64 v, .int .i64 b, .int .i64 e.op, .int .i64 e.n, .slice A0 e.args.length c0, .slice A1 body.length c1, .slice A2 els.length c2], true, 63, 8⟩
  refine l22ExprR_ok _ e A0 c0 _ _ he (hE.le lx) (fun v1 C1 r1 => ?_)
  have g1 := fl_eight r1.hle
  obtain ⟨B1, e1, rfl, -⟩ := r1.fl
  have w1 := nat_add (a := i) (b := (compE e).length) (by omega)
  have w2 := nat_up (a := i + (compE e).length) (by omega)
  repeat' (first | simp -implicitDefEqProofs only [zG1,zG2,zG3,zG4,zG5,zG6,zG7,eq_self,resV,rval,X.val,binv,fillL,setR,↓reduceIte,Nat.reduceEqDiff,Nat.reduceAdd,Nat.reduceMul,Nat.reduceLeDiff,Nat.reduceLT,Nat.reduceSub,reduceCtorEq,zGq, g1, w1, w2] | ((with_reducible refine rows_intro (fun _ hb => ?_)); try simp only [set_none, ne_eq] at hb) | ((with_reducible refine new_intro (fun _ hb => ?_)); try simp only [set_none, ne_eq] at hb) | (with_reducible refine draw_same ?_) | ((with_reducible refine gd_split ?_ (fun _ => ?_) (fun _ => ?_)); exact rfl) | ((with_reducible refine td_split ?_ (fun _ => ?_) (fun _ => ?_)); exact rfl) | (with_reducible refine c_split (fun _ => ?_) (fun _ => ?_)) | (with_reducible refine ih body A1 c1 _ _ _ hbd (by omega) (by omega) (hB.le (lx.trans r1.hle)) (fun v2 C2 r2 => ?_)))
  have g2 := fl_eight (r1.hle.trans r2.hle)
  obtain ⟨B2, e2, rfl, -⟩ := r2.fl
  have w3 := nat_add (a := i + (compE e).length + 1) (b := szL body) (by omega)
  have w4 := nat_up (a := i + (compE e).length + 1 + szL body) (by omega)
  repeat' (first | simp -implicitDefEqProofs only [zG1,zG2,zG3,zG4,zG5,zG6,zG7,eq_self,resV,rval,X.val,binv,fillL,setR,↓reduceIte,Nat.reduceEqDiff,Nat.reduceAdd,Nat.reduceMul,Nat.reduceLeDiff,Nat.reduceLT,Nat.reduceSub,reduceCtorEq,zGq, g2, w1, w2, w3, w4] | ((with_reducible refine rows_intro (fun _ hb => ?_)); try simp only [set_none, ne_eq] at hb) | ((with_reducible refine new_intro (fun _ hb => ?_)); try simp only [set_none, ne_eq] at hb) | (with_reducible refine draw_same ?_) | ((with_reducible refine gd_split ?_ (fun _ => ?_) (fun _ => ?_)); exact rfl) | ((with_reducible refine td_split ?_ (fun _ => ?_) (fun _ => ?_)); exact rfl) | (with_reducible refine c_split (fun _ => ?_) (fun _ => ?_)))
  obtain ⟨D, lD, lD2, rD, kp⟩ := r1.cut r2.hle
  have r2' := kp _ _ _ _ _ r2
  refine rD.app1 (m := 1) ‹_› rfl (by simp [ocI]) (by simp only [maxLen]; omega) (by omega) (fun v3 C3 r3 => ?_)
  repeat' (first | simp -implicitDefEqProofs only [zG1,zG2,zG3,zG4,zG5,zG6,zG7,eq_self,resV,rval,X.val,binv,fillL,setR,↓reduceIte,Nat.reduceEqDiff,Nat.reduceAdd,Nat.reduceMul,Nat.reduceLeDiff,Nat.reduceLT,Nat.reduceSub,reduceCtorEq,zGq, g2, w1, w2, w3, w4] | ((with_reducible refine rows_intro (fun _ hb => ?_)); try simp only [set_none, ne_eq] at hb) | ((with_reducible refine new_intro (fun _ hb => ?_)); try simp only [set_none, ne_eq] at hb) | (with_reducible refine draw_same ?_) | ((with_reducible refine gd_split ?_ (fun _ => ?_) (fun _ => ?_)); exact rfl) | ((with_reducible refine td_split ?_ (fun _ => ?_) (fun _ => ?_)); exact rfl) | (with_reducible refine c_split (fun _ => ?_) (fun _ => ?_)))
  refine r3.app (r2'.le r3.hle).fl'.1 (by rw [qcells_len, compL_len]; rfl) (qcells_oc _) (by simp only [maxLen]; omega) (by omega) (fun v4 C4 r4 => ?_)
  repeat' (first | simp -implicitDefEqProofs only [zG1,zG2,zG3,zG4,zG5,zG6,zG7,eq_self,resV,rval,X.val,binv,fillL,setR,↓reduceIte,Nat.reduceEqDiff,Nat.reduceAdd,Nat.reduceMul,Nat.reduceLeDiff,Nat.reduceLT,Nat.reduceSub,reduceCtorEq,zGq] | ((with_reducible refine rows_intro (fun _ hb => ?_)); try simp only [set_none, ne_eq] at hb) | ((with_reducible refine new_intro (fun _ hb => ?_)); try simp only [set_none, ne_eq] at hb) | (with_reducible refine draw_same ?_) | ((with_reducible refine gd_split ?_ (fun _ => ?_) (fun _ => ?_)); exact rfl) | ((with_reducible refine td_split ?_ (fun _ => ?_) (fun _ => ?_)); exact rfl) | (with_reducible refine c_split (fun _ => ?_) (fun _ => ?_)))
  refine r4.app1 (m := 1) ‹_› rfl (by simp [ocI]) (by simp only [maxLen]; omega) (by omega) (fun v5 C5 r5 => ?_)
  repeat' (first | simp -implicitDefEqProofs only [zG1,zG2,zG3,zG4,zG5,zG6,zG7,eq_self,resV,rval,X.val,binv,fillL,setR,↓reduceIte,Nat.reduceEqDiff,Nat.reduceAdd,Nat.reduceMul,Nat.reduceLeDiff,Nat.reduceLT,Nat.reduceSub,reduceCtorEq,zGq] | ((with_reducible refine rows_intro (fun _ hb => ?_)); try simp only [set_none, ne_eq] at hb) | ((with_reducible refine new_intro (fun _ hb => ?_)); try simp only [set_none, ne_eq] at hb) | (with_reducible refine draw_same ?_) | ((with_reducible refine gd_split ?_ (fun _ => ?_) (fun _ => ?_)); exact rfl) | ((with_reducible refine td_split ?_ (fun _ => ?_) (fun _ => ?_)); exact rfl) | (with_reducible refine c_split (fun _ => ?_) (fun _ => ?_)))
  refine ret_same (h _ _ ?_)
  have r6 := r5.base (lx.trans lD)
  have e6 : (compE e).length + 2 + szL body = (compE e).length + 1 + szL body + 1 := by omega
  have e7 : szS (.mk 3 v b e body els) = (compE e).length + 1 + szL body + 1 := by rw [← e6]; simp [szS]
  rw [e7]
  have e8 : compS (.mk 3 v b e body els) i = compE e ++ ⟨5, 0, 4, 0, ((i + (compE e).length + 1 + szL body + 1 : Nat) : Int)⟩ :: (compL body (i + (compE e).length + 1) ++ [⟨4, 0, 0, 0, (i : Int)⟩]) := by simp [compS]
  rw [e8]
  simp only [qcells_app, qcells_cons, List.append_assoc] at r6 ⊢
  exact r6
/-- The quad behind a statement's expression. -/
theorem siP_of (d : Nat) (ih : ∀ d', d = d' + 1 → LiP w0 d') : SiP w0 d := by
  intro s A0 c0 A1 c1 A2 c2 i H K ho hc hi hv h
  obtain ⟨hE, ⟨hb1, hb2⟩, hl1, hl2⟩ := hv.parts
  have he := stOk_e ho
  have hcs := s.cnt_eq
  have n0 := compE_le s.e
  refine acalls_of_sx mix Try.func57 of57 (by simp [ir57]) ?_; rw [ir57]; (try delta qT qI qC qO qM qG)
  repeat' (first | simp -implicitDefEqProofs only [zG1,zG2,zG3,zG4,zG5,zG6,zG7,eq_self,resV,rval,X.val,binv,fillL,setR,↓reduceIte,Nat.reduceEqDiff,Nat.reduceAdd,Nat.reduceMul,Nat.reduceLeDiff,Nat.reduceLT,Nat.reduceSub,reduceCtorEq,zGq] | ((with_reducible refine rows_intro (fun _ hb => ?_)); try simp only [set_none, ne_eq] at hb) | ((with_reducible refine new_intro (fun _ hb => ?_)); try simp only [set_none, ne_eq] at hb) | (with_reducible refine draw_same ?_) | ((with_reducible refine gd_split ?_ (fun _ => ?_) (fun _ => ?_)); exact rfl) | ((with_reducible refine td_split ?_ (fun _ => ?_) (fun _ => ?_)); exact rfl) | (with_reducible refine c_split (fun _ => ?_) (fun _ => ?_)))
  rename_i x
  have hx := hb
  have lx := (AHeap.le.refl H).fresh hx ⟨[.int .i64 s.kind, .int .i64 s.var, .int .i64 s.box, .int .i64 s.e.op, .int .i64 s.e.n, .slice A0 s.e.args.length c0, .slice A1 s.body.length c1, .slice A2 s.els.length c2], true, 63, 8⟩
  refine l22ExprR_ok _ s.e A0 c0 _ _ he (hE.le lx) (fun v1 C1 r1 => ?_)
  have g1 := fl_eight r1.hle
  have lx1 := lx.trans r1.hle
  by_cases hk : s.kind = 2 ∨ s.kind = 3
  · obtain ⟨d', rfl, hbk, hbd, hel⟩ := stOk_block ho hk
    have ihd := ih d' rfl
    cases s with
    | mk k v b e body els =>
      simp only [St.kind, St.var, St.box, St.e, St.body, St.els] at *
      rcases hk with rfl | rfl
      · repeat' (first | simp -implicitDefEqProofs only [zG1,zG2,zG3,zG4,zG5,zG6,zG7,eq_self,resV,rval,X.val,binv,fillL,setR,↓reduceIte,Nat.reduceEqDiff,Nat.reduceAdd,Nat.reduceMul,Nat.reduceLeDiff,Nat.reduceLT,Nat.reduceSub,reduceCtorEq,zGq, g1, Int.reduceBEq] | ((with_reducible refine rows_intro (fun _ hb => ?_)); try simp only [set_none, ne_eq] at hb) | ((with_reducible refine new_intro (fun _ hb => ?_)); try simp only [set_none, ne_eq] at hb) | (with_reducible refine draw_same ?_) | ((with_reducible refine gd_split ?_ (fun _ => ?_) (fun _ => ?_)); exact rfl) | ((with_reducible refine td_split ?_ (fun _ => ?_) (fun _ => ?_)); exact rfl) | (with_reducible refine c_split (fun _ => ?_) (fun _ => ?_)))
        refine l22If_ok w0 d' ihd _ _ _ e body els A0 c0 A1 c1 A2 c2 i _ _ he hbd hel (by omega) (by omega) (hE.le lx1) (hb2.le lx1) (hl2.le lx1) (fun v2 C2 r2 => ?_)
        repeat' (first | simp -implicitDefEqProofs only [zG1,zG2,zG3,zG4,zG5,zG6,zG7,eq_self,resV,rval,X.val,binv,fillL,setR,↓reduceIte,Nat.reduceEqDiff,Nat.reduceAdd,Nat.reduceMul,Nat.reduceLeDiff,Nat.reduceLT,Nat.reduceSub,reduceCtorEq,zGq] | ((with_reducible refine rows_intro (fun _ hb => ?_)); try simp only [set_none, ne_eq] at hb) | ((with_reducible refine new_intro (fun _ hb => ?_)); try simp only [set_none, ne_eq] at hb) | (with_reducible refine draw_same ?_) | ((with_reducible refine gd_split ?_ (fun _ => ?_) (fun _ => ?_)); exact rfl) | ((with_reducible refine td_split ?_ (fun _ => ?_) (fun _ => ?_)); exact rfl) | (with_reducible refine c_split (fun _ => ?_) (fun _ => ?_)))
        exact ret_same (h _ _ (r2.base lx1))
      · repeat' (first | simp -implicitDefEqProofs only [zG1,zG2,zG3,zG4,zG5,zG6,zG7,eq_self,resV,rval,X.val,binv,fillL,setR,↓reduceIte,Nat.reduceEqDiff,Nat.reduceAdd,Nat.reduceMul,Nat.reduceLeDiff,Nat.reduceLT,Nat.reduceSub,reduceCtorEq,zGq, g1, Int.reduceBEq] | ((with_reducible refine rows_intro (fun _ hb => ?_)); try simp only [set_none, ne_eq] at hb) | ((with_reducible refine new_intro (fun _ hb => ?_)); try simp only [set_none, ne_eq] at hb) | (with_reducible refine draw_same ?_) | ((with_reducible refine gd_split ?_ (fun _ => ?_) (fun _ => ?_)); exact rfl) | ((with_reducible refine td_split ?_ (fun _ => ?_) (fun _ => ?_)); exact rfl) | (with_reducible refine c_split (fun _ => ?_) (fun _ => ?_)))
        refine l22While_ok w0 d' ihd _ _ _ e body els A0 c0 A1 c1 A2 c2 i _ _ he hbd (by omega) (by omega) (hE.le lx1) (hb2.le lx1) (fun v2 C2 r2 => ?_)
        repeat' (first | simp -implicitDefEqProofs only [zG1,zG2,zG3,zG4,zG5,zG6,zG7,eq_self,resV,rval,X.val,binv,fillL,setR,↓reduceIte,Nat.reduceEqDiff,Nat.reduceAdd,Nat.reduceMul,Nat.reduceLeDiff,Nat.reduceLT,Nat.reduceSub,reduceCtorEq,zGq] | ((with_reducible refine rows_intro (fun _ hb => ?_)); try simp only [set_none, ne_eq] at hb) | ((with_reducible refine new_intro (fun _ hb => ?_)); try simp only [set_none, ne_eq] at hb) | (with_reducible refine draw_same ?_) | ((with_reducible refine gd_split ?_ (fun _ => ?_) (fun _ => ?_)); exact rfl) | ((with_reducible refine td_split ?_ (fun _ => ?_) (fun _ => ?_)); exact rfl) | (with_reducible refine c_split (fun _ => ?_) (fun _ => ?_)))
        exact ret_same (h _ _ (r2.base lx1))
  · have hs := stOk_simple ho (fun e => hk (.inl e)) (fun e => hk (.inr e))
    have hkk := simple_kind hs
    obtain ⟨q, e0, -, -, -, -, eq⟩ := simple_q hs i
    have hz : szS s = (if s.kind = 5 ∨ s.kind = 6 then 0 else (compE s.e).length) + 1 := by
      rw [← compS_len s i, e0]
      split <;> simp
    rw [hz, e0, qcells_app, qcells_one'] at h
    clear hv hE hb2 hl2 ho hs
    generalize s.kind = k, s.var = v, s.box = b at *
    rcases hkk with rfl | rfl | rfl | rfl | rfl
    · simp at eq
      subst eq
      repeat' (first | simp -implicitDefEqProofs only [zG1,zG2,zG3,zG4,zG5,zG6,zG7,eq_self,resV,rval,X.val,binv,fillL,setR,↓reduceIte,Nat.reduceEqDiff,Nat.reduceAdd,Nat.reduceMul,Nat.reduceLeDiff,Nat.reduceLT,Nat.reduceSub,reduceCtorEq,zGq, g1, Int.reduceBEq] | ((with_reducible refine rows_intro (fun _ hb => ?_)); try simp only [set_none, ne_eq] at hb) | ((with_reducible refine new_intro (fun _ hb => ?_)); try simp only [set_none, ne_eq] at hb) | (with_reducible refine draw_same ?_) | ((with_reducible refine gd_split ?_ (fun _ => ?_) (fun _ => ?_)); exact rfl) | ((with_reducible refine td_split ?_ (fun _ => ?_) (fun _ => ?_)); exact rfl) | (with_reducible refine c_split (fun _ => ?_) (fun _ => ?_)))
      refine r1.app1 (m := 1) ‹_› rfl (by simp [ocI]) (by simp only [maxLen]; omega) (by omega) (fun v3 C3 r3 => ?_)
      repeat' (first | simp -implicitDefEqProofs only [zG1,zG2,zG3,zG4,zG5,zG6,zG7,eq_self,resV,rval,X.val,binv,fillL,setR,↓reduceIte,Nat.reduceEqDiff,Nat.reduceAdd,Nat.reduceMul,Nat.reduceLeDiff,Nat.reduceLT,Nat.reduceSub,reduceCtorEq,zGq] | ((with_reducible refine rows_intro (fun _ hb => ?_)); try simp only [set_none, ne_eq] at hb) | ((with_reducible refine new_intro (fun _ hb => ?_)); try simp only [set_none, ne_eq] at hb) | (with_reducible refine draw_same ?_) | ((with_reducible refine gd_split ?_ (fun _ => ?_) (fun _ => ?_)); exact rfl) | ((with_reducible refine td_split ?_ (fun _ => ?_) (fun _ => ?_)); exact rfl) | (with_reducible refine c_split (fun _ => ?_) (fun _ => ?_)))
      exact ret_same (h _ _ (by simpa using r3.base lx))
    · simp at eq
      subst eq
      repeat' (first | simp -implicitDefEqProofs only [zG1,zG2,zG3,zG4,zG5,zG6,zG7,eq_self,resV,rval,X.val,binv,fillL,setR,↓reduceIte,Nat.reduceEqDiff,Nat.reduceAdd,Nat.reduceMul,Nat.reduceLeDiff,Nat.reduceLT,Nat.reduceSub,reduceCtorEq,zGq, g1, Int.reduceBEq] | ((with_reducible refine rows_intro (fun _ hb => ?_)); try simp only [set_none, ne_eq] at hb) | ((with_reducible refine new_intro (fun _ hb => ?_)); try simp only [set_none, ne_eq] at hb) | (with_reducible refine draw_same ?_) | ((with_reducible refine gd_split ?_ (fun _ => ?_) (fun _ => ?_)); exact rfl) | ((with_reducible refine td_split ?_ (fun _ => ?_) (fun _ => ?_)); exact rfl) | (with_reducible refine c_split (fun _ => ?_) (fun _ => ?_)))
      refine r1.app1 (m := 1) ‹_› rfl (by simp [ocI]) (by simp only [maxLen]; omega) (by omega) (fun v3 C3 r3 => ?_)
      repeat' (first | simp -implicitDefEqProofs only [zG1,zG2,zG3,zG4,zG5,zG6,zG7,eq_self,resV,rval,X.val,binv,fillL,setR,↓reduceIte,Nat.reduceEqDiff,Nat.reduceAdd,Nat.reduceMul,Nat.reduceLeDiff,Nat.reduceLT,Nat.reduceSub,reduceCtorEq,zGq] | ((with_reducible refine rows_intro (fun _ hb => ?_)); try simp only [set_none, ne_eq] at hb) | ((with_reducible refine new_intro (fun _ hb => ?_)); try simp only [set_none, ne_eq] at hb) | (with_reducible refine draw_same ?_) | ((with_reducible refine gd_split ?_ (fun _ => ?_) (fun _ => ?_)); exact rfl) | ((with_reducible refine td_split ?_ (fun _ => ?_) (fun _ => ?_)); exact rfl) | (with_reducible refine c_split (fun _ => ?_) (fun _ => ?_)))
      exact ret_same (h _ _ (by simpa using r3.base lx))
    · simp at eq
      subst eq
      repeat' (first | simp -implicitDefEqProofs only [zG1,zG2,zG3,zG4,zG5,zG6,zG7,eq_self,resV,rval,X.val,binv,fillL,setR,↓reduceIte,Nat.reduceEqDiff,Nat.reduceAdd,Nat.reduceMul,Nat.reduceLeDiff,Nat.reduceLT,Nat.reduceSub,reduceCtorEq,zGq, g1, Int.reduceBEq] | ((with_reducible refine rows_intro (fun _ hb => ?_)); try simp only [set_none, ne_eq] at hb) | ((with_reducible refine new_intro (fun _ hb => ?_)); try simp only [set_none, ne_eq] at hb) | (with_reducible refine draw_same ?_) | ((with_reducible refine gd_split ?_ (fun _ => ?_) (fun _ => ?_)); exact rfl) | ((with_reducible refine td_split ?_ (fun _ => ?_) (fun _ => ?_)); exact rfl) | (with_reducible refine c_split (fun _ => ?_) (fun _ => ?_)))
      exact ret_same (h _ _ (by simpa [qcells] using (Row.lit (sz := 5) (n := 1) hb rfl rfl (by decide)).base lx1))
    · simp at eq
      subst eq
      repeat' (first | simp -implicitDefEqProofs only [zG1,zG2,zG3,zG4,zG5,zG6,zG7,eq_self,resV,rval,X.val,binv,fillL,setR,↓reduceIte,Nat.reduceEqDiff,Nat.reduceAdd,Nat.reduceMul,Nat.reduceLeDiff,Nat.reduceLT,Nat.reduceSub,reduceCtorEq,zGq, g1, Int.reduceBEq] | ((with_reducible refine rows_intro (fun _ hb => ?_)); try simp only [set_none, ne_eq] at hb) | ((with_reducible refine new_intro (fun _ hb => ?_)); try simp only [set_none, ne_eq] at hb) | (with_reducible refine draw_same ?_) | ((with_reducible refine gd_split ?_ (fun _ => ?_) (fun _ => ?_)); exact rfl) | ((with_reducible refine td_split ?_ (fun _ => ?_) (fun _ => ?_)); exact rfl) | (with_reducible refine c_split (fun _ => ?_) (fun _ => ?_)))
      exact ret_same (h _ _ (by simpa [qcells] using (Row.lit (sz := 5) (n := 1) hb rfl rfl (by decide)).base lx1))
    · simp at eq
      subst eq
      repeat' (first | simp -implicitDefEqProofs only [zG1,zG2,zG3,zG4,zG5,zG6,zG7,eq_self,resV,rval,X.val,binv,fillL,setR,↓reduceIte,Nat.reduceEqDiff,Nat.reduceAdd,Nat.reduceMul,Nat.reduceLeDiff,Nat.reduceLT,Nat.reduceSub,reduceCtorEq,zGq, g1, Int.reduceBEq] | ((with_reducible refine rows_intro (fun _ hb => ?_)); try simp only [set_none, ne_eq] at hb) | ((with_reducible refine new_intro (fun _ hb => ?_)); try simp only [set_none, ne_eq] at hb) | (with_reducible refine draw_same ?_) | ((with_reducible refine gd_split ?_ (fun _ => ?_) (fun _ => ?_)); exact rfl) | ((with_reducible refine td_split ?_ (fun _ => ?_) (fun _ => ?_)); exact rfl) | (with_reducible refine c_split (fun _ => ?_) (fun _ => ?_)))
      refine r1.app1 (m := 1) ‹_› rfl (by simp [ocI]) (by simp only [maxLen]; omega) (by omega) (fun v3 C3 r3 => ?_)
      repeat' (first | simp -implicitDefEqProofs only [zG1,zG2,zG3,zG4,zG5,zG6,zG7,eq_self,resV,rval,X.val,binv,fillL,setR,↓reduceIte,Nat.reduceEqDiff,Nat.reduceAdd,Nat.reduceMul,Nat.reduceLeDiff,Nat.reduceLT,Nat.reduceSub,reduceCtorEq,zGq] | ((with_reducible refine rows_intro (fun _ hb => ?_)); try simp only [set_none, ne_eq] at hb) | ((with_reducible refine new_intro (fun _ hb => ?_)); try simp only [set_none, ne_eq] at hb) | (with_reducible refine draw_same ?_) | ((with_reducible refine gd_split ?_ (fun _ => ?_) (fun _ => ?_)); exact rfl) | ((with_reducible refine td_split ?_ (fun _ => ?_) (fun _ => ?_)); exact rfl) | (with_reducible refine c_split (fun _ => ?_) (fun _ => ?_)))
      exact ret_same (h _ _ (by simpa using r3.base lx))
end Go.Proofs.Ytjhedgoafkabiaa
namespace Go.Proofs.Ytjhedgoafkabiaa
set_option linter.all false
open Go Go.RowKit
set_option maxRecDepth 100000
variable (w0 : World)
section
variable {H B C C2 C' : AHeap} {t : TypeId} {sz n : Nat} {v : Value} {xs : List Value}
/-- The row over all else that is known behind it, what was made since too. -/
theorem Row.cutK (h : Row H C t sz v n xs) (l : AHeap.le C C2) : ∃ B, AHeap.le H B ∧ AHeap.le B C2 ∧ Row B C2 t sz v n xs ∧ ∀ (x : Nat) (k : Blk), C x = none → Kn C2 x k → Kn B x k := by
  obtain ⟨bs, l0, nb, w⟩ := h
  refine ⟨C2.no fun b => b ∈ bs, le_no (B := fun b => b ∈ bs) (l0.trans l) nb, no_le _ _, ⟨bs, no_le _ _, fun x hx => no_in hx, w.trans l⟩, fun x k hx hk => hk.chg Chg.no fun hm => ?_⟩
  rcases w with ⟨_, _, _, rfl⟩ | ⟨b', cap, _, rfl, _, _, _, hk'⟩
  · cases hm
  · simp only [List.mem_cons, List.not_mem_nil, or_false] at hm
    subst hm
    exact hk'.ne hx
end
theorem qcells_setn (x : Int) : ∀ (qs : List Qd) (i : Nat) (hi : i < qs.length), (qcells qs).set (i * 5 + 4) (.int .i64 x) = qcells (qs.set i ⟨qs[i].op, qs[i].dst, qs[i].a, qs[i].b, x⟩)
  | q :: qs, 0, _ => rfl
  | q :: qs, i + 1, hi => by
    have ih := qcells_setn x qs i (by simpa using hi)
    rw [qcells_cons, List.set_append_right _ _ (by show 5 ≤ _; omega)]
    have e : (i + 1) * 5 + 4 - q.cells.length = i * 5 + 4 := by show (i + 1) * 5 + 4 - 5 = _; omega
    rw [e, ih]
    rfl
theorem Row.put {H C : AHeap} {t : TypeId} {A : Option Addr} {n c i : Nat} {qs : List Qd} {x : Int} {D : Value → AHeap → Prop} (h : Row H C t 5 (.slice A n c) n (qcells qs)) (hi : i < qs.length) (hn : n = qs.length)
    (hD : ∀ C', Row H C' t 5 (.slice A n c) n (qcells (qs.set i ⟨qs[i].op, qs[i].dst, qs[i].a, qs[i].b, x⟩)) → D undef C') : stK 1 (.pointer (adr A (i * 5 + 4))) (.int .i64 x) D C := by
  obtain ⟨bs, l, nb, w⟩ := h
  obtain ⟨b', cap, e, rfl, h1, h2, h3, hk⟩ := w.open_ (by omega)
  simp only [Value.slice.injEq, true_and] at e
  obtain ⟨rfl, rfl⟩ := e
  rw [adr_lit, Nat.zero_add]
  refine st_kn hk rfl rfl (by show i * 5 + 4 + 1 ≤ (qcells qs).length; rw [qcells_len]; omega) (by simp [vcI, ocI]) (fun C' hc _ k => hD C' ⟨[b'], hc.keep l nb, nb, ?_⟩)
  have e2 : setR (qcells qs) (i * 5 + 4) (Value.int .i64 x).cells.toList = qcells (qs.set i ⟨qs[i].op, qs[i].dst, qs[i].a, qs[i].b, x⟩) := qcells_setn x qs i hi
  simp only at k
  rw [e2] at k
  exact Rw.mk k (by rw [qcells_len, List.length_set, hn]) h1 h2
theorem compileExprR_ok (e : Ex) (a : Option Addr) (c : Nat) (H C : AHeap) (K : Value → AHeap → Prop) (v : Value) (qs : List Qd) (he : exprOk 5 e = true) (hv : ExV H e [.int .i64 e.op, .int .i64 e.n, .slice a e.args.length c]) (hr : Row H C 33 5 v qs.length (qcells qs)) (hm : qs.length ≤ 1099511627700)
    (h : ∀ v' C', Row H C' 33 5 v' (qs ++ compE e).length (qcells (qs ++ compE e)) → K v' C') :
    ACalls Try.prog w0 87 [.agg #[.int .i64 e.op, .int .i64 e.n, .slice a e.args.length c], .int .i64 4, v] C K := by
  obtain ⟨bs, l, nb, w⟩ := hr
  obtain ⟨A, B, hB, ho, hA⟩ := w.own_
  have lA : AHeap.le H A := fun x k hx => by
    rcases hA x with hm | hm
    · rw [nb x hm] at hx; cases hx
    · rw [hm]; exact l x k hx
  refine ACalls.mono (compileExpr_ok w0 5 e a c 4 A B K v qs.length (qcells qs) (by decide) he (hv.le lA) (by decide) (by decide) ho (by omega) fun v' C' o => h v' C' ?_) hB
  obtain ⟨l', bs', n', w'⟩ := o.rw_
  refine ⟨bs', lA.trans l', n'.le lA, ?_⟩
  rw [List.length_append, qcells_app]
  exact w'
abbrev KsP (d : Nat) : Prop := ∀ (ss : List St) (A : Option Addr) (c : Nat) (H C : AHeap) (K : Value → AHeap → Prop) (v : Value) (qs : List Qd), ss.all (stOk d) = true → cntL ss ≤ 1048576 → qs.length ≤ 1099511627776 - 33 * cntL ss - 100 → StR H ss A 0 → Row H C 33 5 v qs.length (qcells qs) →
  (∀ v' C', Row H C' 33 5 v' (qs ++ compL ss qs.length).length (qcells (qs ++ compL ss qs.length)) → K v' C') → ACalls Try.prog w0 53 [.slice A ss.length c, v] C K
abbrev CsP (d : Nat) : Prop := ∀ (s : St) (A0 : Option Addr) (c0 : Nat) (A1 : Option Addr) (c1 : Nat) (A2 : Option Addr) (c2 : Nat) (H C : AHeap) (K : Value → AHeap → Prop) (v : Value) (qs : List Qd), stOk d s = true → s.cnt ≤ 1048576 → qs.length ≤ 1099511627776 - 33 * s.cnt - 100 →
  StV H s (stc s.kind s.var s.box s.e s.body.length s.els.length A0 c0 A1 c1 A2 c2) → Row H C 33 5 v qs.length (qcells qs) →
  (∀ v' C', Row H C' 33 5 v' (qs ++ compS s qs.length).length (qcells (qs ++ compS s qs.length)) → K v' C') → ACalls Try.prog w0 75 [stv s.kind s.var s.box s.e s.body.length s.els.length A0 c0 A1 c1 A2 c2, v] C K
theorem ksP_of (d : Nat) (ih : CsP w0 d) : KsP w0 d := by
  intro ss A c H C K v qs ho hc hq hR hr h
  have hl := cntL_len ss
  have hs := szL_le ss
  refine acalls_of_sx mix Try.func53 of53 (by simp [ir53]) ?_; rw [ir53]; (try delta qT qI qC qO qM qG)
  repeat' (first | simp -implicitDefEqProofs only [zG1,zG2,zG3,zG4,zG5,zG6,zG7,eq_self,resV,rval,X.val,binv,fillL,setR,↓reduceIte,Nat.reduceEqDiff,Nat.reduceAdd,Nat.reduceMul,Nat.reduceLeDiff,Nat.reduceLT,Nat.reduceSub,reduceCtorEq,zGq] | ((with_reducible refine rows_intro (fun _ hb => ?_)); try simp only [set_none, ne_eq] at hb) | ((with_reducible refine new_intro (fun _ hb => ?_)); try simp only [set_none, ne_eq] at hb) | (with_reducible refine draw_same ?_) | ((with_reducible refine gd_split ?_ (fun _ => ?_) (fun _ => ?_)); exact rfl) | ((with_reducible refine td_split ?_ (fun _ => ?_) (fun _ => ?_)); exact rfl) | (with_reducible refine c_split (fun _ => ?_) (fun _ => ?_)))
  refine for_rule ss.length (fun k fr C' => ∃ v', Row H C' 33 5 v' (qs ++ compL (ss.take k) qs.length).length (qcells (qs ++ compL (ss.take k) qs.length)) ∧ fr 1 = v' ∧ fr 7 = .slice A ss.length c ∧ fr 8 = .int .i64 ss.length ∧ fr 9 = .int .i64 k)
    ⟨v, by simpa [compL] using hr, (by first | rfl | (simp only [put_at, ↓reduceIte, Nat.reduceEqDiff]; first | done | rfl | assumption) | simp [put_at, *]), (by first | rfl | (simp only [put_at, ↓reduceIte, Nat.reduceEqDiff]; first | done | rfl | assumption) | simp [put_at, *]), (by first | rfl | (simp only [put_at, ↓reduceIte, Nat.reduceEqDiff]; first | done | rfl | assumption) | simp [put_at, *]), (by first | rfl | (simp only [put_at, ↓reduceIte, Nat.reduceEqDiff]; first | done | rfl | assumption) | simp [put_at, *])⟩ ?_ ?_
  · rintro k fr C1 hk ⟨v1, r1, f1, f7, f8, f9⟩ N hN
    have g0 := lt_dec hk
    have g1 := rng hk
    have g2 := up1 hk (by omega)
    obtain ⟨gA, a0, d0, a1, d1, a2, d2, gp, hx⟩ := (hR.le r1.hle).arg hk
    obtain ⟨-, -, -, -, -, -, -, -, hx0⟩ := hR.arg hk
    have hxv : StV H ss[k] (stc ss[k].kind ss[k].var ss[k].box ss[k].e ss[k].body.length ss[k].els.length a0 d0 a1 d1 a2 d2) := by
      obtain ⟨_, b0, e0, b1, e1, b2, e2, gp', hx'⟩ := hR.arg hk
      obtain ⟨g0, g1, g2, g3, g4, g5, g6, g7⟩ := gp
      obtain ⟨m0, m1, m2, m3, m4, m5, m6, m7⟩ := Pl8.le r1.hle gp'
      rw [m5] at g5; rw [m6] at g6; rw [m7] at g7
      simp only [Option.some.injEq, Value.slice.injEq, true_and] at g5 g6 g7
      obtain ⟨rfl, rfl⟩ := g5
      obtain ⟨rfl, rfl⟩ := g6
      obtain ⟨rfl, rfl⟩ := g7
      exact hx'
    have hct := cntL_at hk
    have hst := cntL_take hk
    have hle := cntL_le (ss := ss) (k + 1)
    have hs2 := szL_le (ss.take k)
    have hlen : (qs ++ compL (ss.take k) qs.length).length = qs.length + szL (ss.take k) := by rw [List.length_append, compL_len]
    have hok := List.all_eq_true.1 ho _ (List.getElem_mem hk)
    repeat' (first | simp -implicitDefEqProofs only [zG1,zG2,zG3,zG4,zG5,zG6,zG7,eq_self,resV,rval,X.val,binv,fillL,setR,↓reduceIte,Nat.reduceEqDiff,Nat.reduceAdd,Nat.reduceMul,Nat.reduceLeDiff,Nat.reduceLT,Nat.reduceSub,reduceCtorEq,zGq, f1, f7, f8, f9, g0, g1, g2, gA, gp, Nat.add_zero] | ((with_reducible refine rows_intro (fun _ hb => ?_)); try simp only [set_none, ne_eq] at hb) | ((with_reducible refine new_intro (fun _ hb => ?_)); try simp only [set_none, ne_eq] at hb) | (with_reducible refine draw_same ?_) | ((with_reducible refine gd_split ?_ (fun _ => ?_) (fun _ => ?_)); exact rfl) | ((with_reducible refine td_split ?_ (fun _ => ?_) (fun _ => ?_)); exact rfl) | (with_reducible refine c_split (fun _ => ?_) (fun _ => ?_)))
    have l2 := (AHeap.le.refl C1).fresh hb ⟨stc ss[k].kind ss[k].var ss[k].box ss[k].e ss[k].body.length ss[k].els.length a0 d0 a1 d1 a2 d2, true, 63, 8⟩
    refine ih ss[k] a0 d0 a1 d1 a2 d2 H _ _ v1 (qs ++ compL (ss.take k) qs.length) hok (by omega) (by omega) hxv (r1.le l2) (fun v3 C3 r3 => ?_)
    repeat' (first | simp -implicitDefEqProofs only [zG1,zG2,zG3,zG4,zG5,zG6,zG7,eq_self,resV,rval,X.val,binv,fillL,setR,↓reduceIte,Nat.reduceEqDiff,Nat.reduceAdd,Nat.reduceMul,Nat.reduceLeDiff,Nat.reduceLT,Nat.reduceSub,reduceCtorEq,zGq, f1, f7, f8, f9, g2] | ((with_reducible refine rows_intro (fun _ hb => ?_)); try simp only [set_none, ne_eq] at hb) | ((with_reducible refine new_intro (fun _ hb => ?_)); try simp only [set_none, ne_eq] at hb) | (with_reducible refine draw_same ?_) | ((with_reducible refine gd_split ?_ (fun _ => ?_) (fun _ => ?_)); exact rfl) | ((with_reducible refine td_split ?_ (fun _ => ?_) (fun _ => ?_)); exact rfl) | (with_reducible refine c_split (fun _ => ?_) (fun _ => ?_)))
    refine hN _ _ _ (.refl _) ⟨v3, ?_, (by first | rfl | (simp only [put_at, ↓reduceIte, Nat.reduceEqDiff]; first | done | rfl | assumption) | simp [put_at, *]), (by first | rfl | (simp only [put_at, ↓reduceIte, Nat.reduceEqDiff]; first | done | rfl | assumption) | simp [put_at, *]), (by first | rfl | (simp only [put_at, ↓reduceIte, Nat.reduceEqDiff]; first | done | rfl | assumption) | simp [put_at, *]), (by first | rfl | (simp only [put_at, ↓reduceIte, Nat.reduceEqDiff]; first | done | rfl | assumption) | simp [put_at, *])⟩
    rw [compL_take hk, ← List.append_assoc, ← hlen]
    exact r3
  · rintro fr C1 ⟨v1, r1, f1, f7, f8, f9⟩ N
    have g0 : decide ((ss.length : Int) < (ss.length : Int)) = false := by simp
    rw [List.take_length] at r1
    repeat' (first | simp -implicitDefEqProofs only [zG1,zG2,zG3,zG4,zG5,zG6,zG7,eq_self,resV,rval,X.val,binv,fillL,setR,↓reduceIte,Nat.reduceEqDiff,Nat.reduceAdd,Nat.reduceMul,Nat.reduceLeDiff,Nat.reduceLT,Nat.reduceSub,reduceCtorEq,zGq, f1, f7, f8, f9, g0] | ((with_reducible refine rows_intro (fun _ hb => ?_)); try simp only [set_none, ne_eq] at hb) | ((with_reducible refine new_intro (fun _ hb => ?_)); try simp only [set_none, ne_eq] at hb) | (with_reducible refine draw_same ?_) | ((with_reducible refine gd_split ?_ (fun _ => ?_) (fun _ => ?_)); exact rfl) | ((with_reducible refine td_split ?_ (fun _ => ?_) (fun _ => ?_)); exact rfl) | (with_reducible refine c_split (fun _ => ?_) (fun _ => ?_)))
    exact ret_same (h _ _ r1)
theorem set_at {α : Type} (a b : List α) (x y : α) : (a ++ x :: b).set a.length y = a ++ y :: b := by
  rw [List.set_append_right _ _ (Nat.le_refl _), Nat.sub_self, List.set_cons_zero]
end Go.Proofs.Ytjhedgoafkabiaa
namespace Go.Proofs.Ytjhedgoafkabiaa
set_option linter.all false
open Go Go.RowKit
set_option maxRecDepth 100000
variable (w0 : World)
theorem kn_eight {C : AHeap} {x : Nat} {t : TypeId} {c : Nat} {v0 v1 v2 v3 v4 v5 v6 v7 : Value} (k : Kn C x ⟨[v0, v1, v2, v3, v4, v5, v6, v7], true, t, c⟩) :
    C.cell (some ⟨x, 0, none⟩) = some v0 ∧ C.cell (some ⟨x, 1, none⟩) = some v1 ∧ C.cell (some ⟨x, 2, none⟩) = some v2 ∧ C.cell (some ⟨x, 3, none⟩) = some v3 ∧ C.cell (some ⟨x, 4, none⟩) = some v4 ∧ C.cell (some ⟨x, 5, none⟩) = some v5 ∧ C.cell (some ⟨x, 6, none⟩) = some v6 ∧ C.cell (some ⟨x, 7, none⟩) = some v7 :=
  ⟨k.cell (j := 0) rfl, k.cell (j := 1) rfl, k.cell (j := 2) rfl, k.cell (j := 3) rfl, k.cell (j := 4) rfl, k.cell (j := 5) rfl, k.cell (j := 6) rfl, k.cell (j := 7) rfl⟩
theorem Row.putq {H C : AHeap} {t : TypeId} {A : Option Addr} {n c i : Nat} {a b : List Qd} {q : Qd} {x : Int} {D : Value → AHeap → Prop} (h : Row H C t 5 (.slice A n c) n (qcells (a ++ q :: b))) (hi : i = a.length) (hn : n = (a ++ q :: b).length)
    (hD : ∀ C', Row H C' t 5 (.slice A n c) n (qcells (a ++ ⟨q.op, q.dst, q.a, q.b, x⟩ :: b)) → D undef C') : stK 1 (.pointer (adr A (i * 5 + 4))) (.int .i64 x) D C := by
  subst hi
  refine h.put (by simp) hn (fun C' r => hD C' ?_)
  have e : (a ++ q :: b)[a.length]'(by simp) = q := by simp
  rw [e, set_at] at r
  exact r
theorem Row.one {H C : AHeap} {t : TypeId} {v : Value} {bytes b c xc : Nat} {o : Bool} {t' : TypeId} {qs : List Qd} {w0 : World} {P : Program} {K : Value → AHeap → Prop} (q : Qd) (h : Row H C t 5 v qs.length (qcells qs)) (hb : C b = none) (hm : qs.length ≤ 1099511627776) (hB : bytes = 40)
    (hK : ∀ v' C', Row H C' t 5 v' (qs ++ [q]).length (qcells (qs ++ [q])) → K v' C') : appK P w0 [.int .i64 0, .int .i64 0, .int .i64 0, .int .i64 0, .int .i64 0] t bytes v (.slice (some ⟨b, 0, none⟩) 1 xc) K (C.set b ⟨q.cells, o, t', c⟩) := by
  subst hB
  refine Row.app1 (m := 1) (z := [.int .i64 0, .int .i64 0, .int .i64 0, .int .i64 0, .int .i64 0]) h hb rfl (q_oc q) (by simp only [maxLen]; omega) (by omega) (fun v' C' r => hK v' C' ?_)
  rw [List.length_append, qcells_app, qcells_one']
  exact r
set_option maxHeartbeats 2000000 in
theorem csP_of (d : Nat) (ih : ∀ d', d = d' + 1 → KsP w0 d') : CsP w0 d := by
  intro s A0 c0 A1 c1 A2 c2 H C K v qs ho hc hq hv hr h
  obtain ⟨hE, ⟨hb1, hb2⟩, hl1, hl2⟩ := hv.parts
  have he := stOk_e ho
  have hcs := s.cnt_eq
  have n0 := compE_le s.e
  obtain ⟨V1, e1, rfl, -⟩ := hr.fl
  refine acalls_of_sx mix Try.func75 of75 (by simp [ir75]) ?_; rw [ir75]; (try delta qT qI qC qO qM qG)
  repeat' (first | simp -implicitDefEqProofs only [zG1,zG2,zG3,zG4,zG5,zG6,zG7,eq_self,resV,rval,X.val,binv,fillL,setR,↓reduceIte,Nat.reduceEqDiff,Nat.reduceAdd,Nat.reduceMul,Nat.reduceLeDiff,Nat.reduceLT,Nat.reduceSub,reduceCtorEq,zGq] | ((with_reducible refine new_intro (fun _ hb => ?_))))
  rename_i x
  have hx := hb
  have lx := (AHeap.le.refl C).fresh hx ⟨[.int .i64 s.kind, .int .i64 s.var, .int .i64 s.box, .int .i64 s.e.op, .int .i64 s.e.n, .slice A0 s.e.args.length c0, .slice A1 s.body.length c1, .slice A2 s.els.length c2], true, 63, 8⟩
  obtain ⟨B, lB, lB2, rB, kB⟩ := hr.cutK lx
  have kx := kB x _ hx (Kn.same _ _ _)
  clear kB lx hb
  generalize C.set x _ = C1 at *
  have g1 := kn_eight (kx.trans lB2)
  have gB := kn_eight kx
  have hEB := hE.le lB
  have hbB := hb2.le lB
  have hlB := hl2.le lB
  by_cases hk : s.kind = 2 ∨ s.kind = 3
  · obtain ⟨d', rfl, hbk, hbd, hel⟩ := stOk_block ho hk
    have ihd := ih d' rfl
    have hn5 : (s.kind != 5) = true := by simp only [bne_iff_ne, ne_eq]; omega
    have hn6 : (s.kind != 6) = true := by simp only [bne_iff_ne, ne_eq]; omega
    repeat' (first | simp -implicitDefEqProofs only [zG1,zG2,zG3,zG4,zG5,zG6,zG7,eq_self,resV,rval,X.val,binv,fillL,setR,↓reduceIte,Nat.reduceEqDiff,Nat.reduceAdd,Nat.reduceMul,Nat.reduceLeDiff,Nat.reduceLT,Nat.reduceSub,reduceCtorEq,zGq, g1, hn5, hn6])
    refine compileExprR_ok _ s.e A0 c0 B C1 _ _ qs he hEB rB (by omega) (fun v2 C2 r2 => ?_)
    have g2 := kn_eight (kx.trans r2.hle)
    obtain ⟨V2, e2, rfl, -⟩ := r2.fl
    cases s with
    | mk k v b e body els =>
      simp only [St.kind, St.var, St.box, St.e, St.body, St.els] at *
      have hsz := szL_le body
      have hsl := szL_le els
      have len1 : (qs ++ compE e).length = qs.length + (compE e).length := by simp
      have e2' : (k == 1) = false ∧ (k == 4) = false ∧ (k == 5) = false ∧ (k == 6) = false ∧ (k == 7) = false := by
        rcases hk with rfl | rfl <;> decide
      generalize hL1 : qs ++ compE e = L1 at *
      repeat' (first | simp -implicitDefEqProofs only [zG1,zG2,zG3,zG4,zG5,zG6,zG7,eq_self,resV,rval,X.val,binv,fillL,setR,↓reduceIte,Nat.reduceEqDiff,Nat.reduceAdd,Nat.reduceMul,Nat.reduceLeDiff,Nat.reduceLT,Nat.reduceSub,reduceCtorEq,zGq, g2, e2'])
      refine draw_at B r2.hle ?_
      repeat' (first | simp -implicitDefEqProofs only [zG1,zG2,zG3,zG4,zG5,zG6,zG7,eq_self,resV,rval,X.val,binv,fillL,setR,↓reduceIte,Nat.reduceEqDiff,Nat.reduceAdd,Nat.reduceMul,Nat.reduceLeDiff,Nat.reduceLT,Nat.reduceSub,reduceCtorEq,zGq, gB])
      refine rows_intro (fun y hy => ?_)
      have ly := r2.hle.trans ((AHeap.le.refl C2).fresh hy ⟨(⟨5, 0, 4, 0, 0⟩ : Qd).cells, true, 33, 5⟩)
      repeat' (first | simp -implicitDefEqProofs only [zG1,zG2,zG3,zG4,zG5,zG6,zG7,eq_self,resV,rval,X.val,binv,fillL,setR,↓reduceIte,Nat.reduceEqDiff,Nat.reduceAdd,Nat.reduceMul,Nat.reduceLeDiff,Nat.reduceLT,Nat.reduceSub,reduceCtorEq,zGq])
      refine ⟨ly, ?_⟩
      refine r2.one ⟨5, 0, 4, 0, 0⟩ hy (by omega) rfl (fun v3 C3 r3 => ?_)
      have l3 := r3.hle
      have len2 : (L1 ++ [(⟨5, 0, 4, 0, 0⟩ : Qd)]).length = qs.length + (compE e).length + 1 := by simp; omega
      repeat' (first | simp -implicitDefEqProofs only [zG1,zG2,zG3,zG4,zG5,zG6,zG7,eq_self,resV,rval,X.val,binv,fillL,setR,↓reduceIte,Nat.reduceEqDiff,Nat.reduceAdd,Nat.reduceMul,Nat.reduceLeDiff,Nat.reduceLT,Nat.reduceSub,reduceCtorEq,zGq, l3])
      refine ihd body A1 c1 B C3 _ v3 _ hbd (by omega) (by omega) hbB r3 (fun v4 C4 r4 => ?_)
      rw [len2] at r4
      have l4 := r4.hle
      have g4 := kn_eight (kx.trans l4)
      obtain ⟨V4, e4, rfl, -⟩ := r4.fl
      have len3 : (L1 ++ [(⟨5, 0, 4, 0, 0⟩ : Qd)] ++ compL body (qs.length + (compE e).length + 1)).length = qs.length + (compE e).length + 1 + szL body := by rw [List.length_append, len2, compL_len]
      have ea : L1 ++ [(⟨5, 0, 4, 0, 0⟩ : Qd)] ++ compL body (qs.length + (compE e).length + 1) = L1 ++ ⟨5, 0, 4, 0, 0⟩ :: compL body (qs.length + (compE e).length + 1) := by simp
      rw [len3, ea] at r4
      rw [len3]
      rcases hk with rfl | rfl
      · cases hem : els.isEmpty with
        | true =>
          have g5 : decide (((els.length : Nat) : Int) > 0) = false := by rw [emp, hem]; rfl
          have gi := rng (k := L1.length) (n := qs.length + (compE e).length + 1 + szL body) (by omega)
          have hi := (r4.fl'.1).is (i := 0) (by rw [qcells_len]; simp only [List.length_append, List.length_cons]; omega)
          repeat' (first | simp -implicitDefEqProofs only [zG1,zG2,zG3,zG4,zG5,zG6,zG7,eq_self,resV,rval,X.val,binv,fillL,setR,↓reduceIte,Nat.reduceEqDiff,Nat.reduceAdd,Nat.reduceMul,Nat.reduceLeDiff,Nat.reduceLT,Nat.reduceSub,reduceCtorEq,zGq, l4, g4, g5, gi, hi, Int.reduceBEq])
          refine r4.putq rfl (by simp [compL_len]; omega) (fun C5 r5 => ?_)
          have g6 := kn_eight (kx.trans r5.hle)
          repeat' (first | simp -implicitDefEqProofs only [zG1,zG2,zG3,zG4,zG5,zG6,zG7,eq_self,resV,rval,X.val,binv,fillL,setR,↓reduceIte,Nat.reduceEqDiff,Nat.reduceAdd,Nat.reduceMul,Nat.reduceLeDiff,Nat.reduceLT,Nat.reduceSub,reduceCtorEq,zGq, g6, g5])
          refine ret_same (h _ _ ?_)
          have e9 : qs ++ compS (.mk 2 v b e body els) qs.length = L1 ++ ⟨5, 0, 4, 0, ((qs.length + (compE e).length + 1 + szL body : Nat) : Int)⟩ :: compL body (qs.length + (compE e).length + 1) := by
            rw [← hL1]; simp [compS, hem]
          have e10 : (qs ++ compS (.mk 2 v b e body els) qs.length).length = qs.length + (compE e).length + 1 + szL body := by rw [e9]; simp [compL_len]; omega
          rw [e10, e9]
          exact r5.base lB
        | false =>
          have g5 : decide (((els.length : Nat) : Int) > 0) = true := by rw [emp, hem]; rfl
          repeat' (first | simp -implicitDefEqProofs only [zG1,zG2,zG3,zG4,zG5,zG6,zG7,eq_self,resV,rval,X.val,binv,fillL,setR,↓reduceIte,Nat.reduceEqDiff,Nat.reduceAdd,Nat.reduceMul,Nat.reduceLeDiff,Nat.reduceLT,Nat.reduceSub,reduceCtorEq,zGq, l4, g4, g5, Int.reduceBEq])
          refine rows_intro (fun y2 hy2 => ?_)
          repeat' (first | simp -implicitDefEqProofs only [zG1,zG2,zG3,zG4,zG5,zG6,zG7,eq_self,resV,rval,X.val,binv,fillL,setR,↓reduceIte,Nat.reduceEqDiff,Nat.reduceAdd,Nat.reduceMul,Nat.reduceLeDiff,Nat.reduceLT,Nat.reduceSub,reduceCtorEq,zGq])
          have r4' : Row B C4 33 5 (.slice V4 (qs.length + (compE e).length + 1 + szL body) e4) (L1 ++ ⟨5, 0, 4, 0, 0⟩ :: compL body (qs.length + (compE e).length + 1)).length (qcells (L1 ++ ⟨5, 0, 4, 0, 0⟩ :: compL body (qs.length + (compE e).length + 1))) := by rw [← ea, len3, ea]; exact r4
          refine r4'.one ⟨4, 0, 0, 0, 0⟩ hy2 (by rw [← ea, len3]; omega) rfl (fun v5 C5 r5 => ?_)
          obtain ⟨V5, e5, rfl, -⟩ := r5.fl
          have g7 := kn_eight (kx.trans r5.hle)
          have len5 : (L1 ++ ⟨5, 0, 4, 0, 0⟩ :: compL body (qs.length + (compE e).length + 1) ++ [(⟨4, 0, 0, 0, 0⟩ : Qd)]).length = qs.length + (compE e).length + 1 + szL body + 1 := by rw [List.length_append, ← ea, len3]; rfl
          have eb : L1 ++ ⟨5, 0, 4, 0, 0⟩ :: compL body (qs.length + (compE e).length + 1) ++ [(⟨4, 0, 0, 0, 0⟩ : Qd)] = L1 ++ ⟨5, 0, 4, 0, 0⟩ :: (compL body (qs.length + (compE e).length + 1) ++ [(⟨4, 0, 0, 0, 0⟩ : Qd)]) := by simp
          rw [len5, eb] at r5
          rw [len5]
          have gi := rng (k := L1.length) (n := qs.length + (compE e).length + 1 + szL body + 1) (by omega)
          have hi := (r5.fl'.1).is (i := 0) (by rw [qcells_len]; simp only [List.length_append, List.length_cons]; omega)
          repeat' (first | simp -implicitDefEqProofs only [zG1,zG2,zG3,zG4,zG5,zG6,zG7,eq_self,resV,rval,X.val,binv,fillL,setR,↓reduceIte,Nat.reduceEqDiff,Nat.reduceAdd,Nat.reduceMul,Nat.reduceLeDiff,Nat.reduceLT,Nat.reduceSub,reduceCtorEq,zGq, g7, g5, gi, hi])
          refine r5.putq rfl (by simp [compL_len]; omega) (fun C6 r6 => ?_)
          have g8 := kn_eight (kx.trans r6.hle)
          repeat' (first | simp -implicitDefEqProofs only [zG1,zG2,zG3,zG4,zG5,zG6,zG7,eq_self,resV,rval,X.val,binv,fillL,setR,↓reduceIte,Nat.reduceEqDiff,Nat.reduceAdd,Nat.reduceMul,Nat.reduceLeDiff,Nat.reduceLT,Nat.reduceSub,reduceCtorEq,zGq, g8, g5])
          have len6 : (L1 ++ ⟨5, 0, 4, 0, ((qs.length + (compE e).length + 1 + szL body + 1 : Nat) : Int)⟩ :: (compL body (qs.length + (compE e).length + 1) ++ [(⟨4, 0, 0, 0, 0⟩ : Qd)])).length = qs.length + (compE e).length + 1 + szL body + 1 := by simp [compL_len]; omega
          refine ihd els A2 c2 B C6 _ _ (L1 ++ ⟨5, 0, 4, 0, ((qs.length + (compE e).length + 1 + szL body + 1 : Nat) : Int)⟩ :: (compL body (qs.length + (compE e).length + 1) ++ [(⟨4, 0, 0, 0, 0⟩ : Qd)])) hel (by omega) (by omega) hlB (by rw [len6]; exact r6) (fun v7 C7 r7 => ?_)
          rw [len6] at r7
          have ec : (L1 ++ ⟨5, 0, 4, 0, ((qs.length + (compE e).length + 1 + szL body + 1 : Nat) : Int)⟩ :: (compL body (qs.length + (compE e).length + 1) ++ [(⟨4, 0, 0, 0, 0⟩ : Qd)])) ++ compL els (qs.length + (compE e).length + 1 + szL body + 1) =
              (L1 ++ ⟨5, 0, 4, 0, ((qs.length + (compE e).length + 1 + szL body + 1 : Nat) : Int)⟩ :: compL body (qs.length + (compE e).length + 1)) ++ ⟨4, 0, 0, 0, 0⟩ :: compL els (qs.length + (compE e).length + 1 + szL body + 1) := by simp
          have len7 : ((L1 ++ ⟨5, 0, 4, 0, ((qs.length + (compE e).length + 1 + szL body + 1 : Nat) : Int)⟩ :: (compL body (qs.length + (compE e).length + 1) ++ [(⟨4, 0, 0, 0, 0⟩ : Qd)])) ++ compL els (qs.length + (compE e).length + 1 + szL body + 1)).length = qs.length + (compE e).length + 1 + szL body + 1 + szL els := by rw [List.length_append, len6, compL_len]
          obtain ⟨V7, e7, rfl, -⟩ := r7.fl
          rw [len7, ec] at r7
          rw [len7]
          have gj := rng (k := qs.length + (compE e).length + 1 + szL body) (n := qs.length + (compE e).length + 1 + szL body + 1 + szL els) (by omega)
          have hi7 := (r7.fl'.1).is (i := 0) (by rw [qcells_len]; simp only [List.length_append, List.length_cons]; omega)
          repeat' (first | simp -implicitDefEqProofs only [zG1,zG2,zG3,zG4,zG5,zG6,zG7,eq_self,resV,rval,X.val,binv,fillL,setR,↓reduceIte,Nat.reduceEqDiff,Nat.reduceAdd,Nat.reduceMul,Nat.reduceLeDiff,Nat.reduceLT,Nat.reduceSub,reduceCtorEq,zGq, gj, hi7])
          refine r7.putq (by simp [compL_len]; omega) (by rw [← ec, len7]) (fun C8 r8 => ?_)
          repeat' (first | simp -implicitDefEqProofs only [zG1,zG2,zG3,zG4,zG5,zG6,zG7,eq_self,resV,rval,X.val,binv,fillL,setR,↓reduceIte,Nat.reduceEqDiff,Nat.reduceAdd,Nat.reduceMul,Nat.reduceLeDiff,Nat.reduceLT,Nat.reduceSub,reduceCtorEq,zGq])
          refine ret_same (h _ _ ?_)
          have e9 : qs ++ compS (.mk 2 v b e body els) qs.length = (L1 ++ ⟨5, 0, 4, 0, ((qs.length + (compE e).length + 1 + szL body + 1 : Nat) : Int)⟩ :: compL body (qs.length + (compE e).length + 1)) ++ ⟨4, 0, 0, 0, ((qs.length + (compE e).length + 1 + szL body + 1 + szL els : Nat) : Int)⟩ :: compL els (qs.length + (compE e).length + 1 + szL body + 1) := by
            rw [← hL1]; simp [compS, hem]
          have e10 : (qs ++ compS (.mk 2 v b e body els) qs.length).length = qs.length + (compE e).length + 1 + szL body + 1 + szL els := by rw [e9]; simp [compL_len]; omega
          rw [e10, e9]
          exact r8.base lB
      · have hem : els.isEmpty = true := by
          simp only [stBlock, Bool.and_eq_true, St.kind, St.els] at hbk
          simpa using hbk.2
        have g5 : decide (((els.length : Nat) : Int) > 0) = false := by rw [emp, hem]; rfl
        repeat' (first | simp -implicitDefEqProofs only [zG1,zG2,zG3,zG4,zG5,zG6,zG7,eq_self,resV,rval,X.val,binv,fillL,setR,↓reduceIte,Nat.reduceEqDiff,Nat.reduceAdd,Nat.reduceMul,Nat.reduceLeDiff,Nat.reduceLT,Nat.reduceSub,reduceCtorEq,zGq, l4, g4, g5, Int.reduceBEq])
        refine rows_intro (fun y2 hy2 => ?_)
        repeat' (first | simp -implicitDefEqProofs only [zG1,zG2,zG3,zG4,zG5,zG6,zG7,eq_self,resV,rval,X.val,binv,fillL,setR,↓reduceIte,Nat.reduceEqDiff,Nat.reduceAdd,Nat.reduceMul,Nat.reduceLeDiff,Nat.reduceLT,Nat.reduceSub,reduceCtorEq,zGq])
        have r4' : Row B C4 33 5 (.slice V4 (qs.length + (compE e).length + 1 + szL body) e4) (L1 ++ ⟨5, 0, 4, 0, 0⟩ :: compL body (qs.length + (compE e).length + 1)).length (qcells (L1 ++ ⟨5, 0, 4, 0, 0⟩ :: compL body (qs.length + (compE e).length + 1))) := by rw [← ea, len3, ea]; exact r4
        refine r4'.one ⟨4, 0, 0, 0, (qs.length : Int)⟩ hy2 (by rw [← ea, len3]; omega) rfl (fun v5 C5 r5 => ?_)
        obtain ⟨V5, e5, rfl, -⟩ := r5.fl
        have g7 := kn_eight (kx.trans r5.hle)
        have len5 : (L1 ++ ⟨5, 0, 4, 0, 0⟩ :: compL body (qs.length + (compE e).length + 1) ++ [(⟨4, 0, 0, 0, (qs.length : Int)⟩ : Qd)]).length = qs.length + (compE e).length + 1 + szL body + 1 := by rw [List.length_append, ← ea, len3]; rfl
        have eb : L1 ++ ⟨5, 0, 4, 0, 0⟩ :: compL body (qs.length + (compE e).length + 1) ++ [(⟨4, 0, 0, 0, (qs.length : Int)⟩ : Qd)] = L1 ++ ⟨5, 0, 4, 0, 0⟩ :: (compL body (qs.length + (compE e).length + 1) ++ [(⟨4, 0, 0, 0, (qs.length : Int)⟩ : Qd)]) := by simp
        rw [len5, eb] at r5
        rw [len5]
        have gi := rng (k := L1.length) (n := qs.length + (compE e).length + 1 + szL body + 1) (by omega)
        have hi := (r5.fl'.1).is (i := 0) (by rw [qcells_len]; simp only [List.length_append, List.length_cons]; omega)
        repeat' (first | simp -implicitDefEqProofs only [zG1,zG2,zG3,zG4,zG5,zG6,zG7,eq_self,resV,rval,X.val,binv,fillL,setR,↓reduceIte,Nat.reduceEqDiff,Nat.reduceAdd,Nat.reduceMul,Nat.reduceLeDiff,Nat.reduceLT,Nat.reduceSub,reduceCtorEq,zGq, g7, g5, gi, hi])
        refine r5.putq rfl (by simp [compL_len]; omega) (fun C6 r6 => ?_)
        have g8 := kn_eight (kx.trans r6.hle)
        repeat' (first | simp -implicitDefEqProofs only [zG1,zG2,zG3,zG4,zG5,zG6,zG7,eq_self,resV,rval,X.val,binv,fillL,setR,↓reduceIte,Nat.reduceEqDiff,Nat.reduceAdd,Nat.reduceMul,Nat.reduceLeDiff,Nat.reduceLT,Nat.reduceSub,reduceCtorEq,zGq, g8, g5])
        refine ret_same (h _ _ ?_)
        have e9 : qs ++ compS (.mk 3 v b e body els) qs.length = L1 ++ ⟨5, 0, 4, 0, ((qs.length + (compE e).length + 1 + szL body + 1 : Nat) : Int)⟩ :: (compL body (qs.length + (compE e).length + 1) ++ [(⟨4, 0, 0, 0, (qs.length : Int)⟩ : Qd)]) := by
          rw [← hL1]; simp [compS]
        have e10 : (qs ++ compS (.mk 3 v b e body els) qs.length).length = qs.length + (compE e).length + 1 + szL body + 1 := by rw [e9]; simp [compL_len]; omega
        rw [e10, e9]
        exact r6.base lB
  · have hs := stOk_simple ho (fun e => hk (.inl e)) (fun e => hk (.inr e))
    have hkk := simple_kind hs
    obtain ⟨q, e0, -, -, -, -, eq⟩ := simple_q hs qs.length
    rw [e0] at h
    clear hv hE hb2 hl2 ho hs e0 hbB hlB
    generalize s.kind = k, s.var = v, s.box = b at *
    have fin : ∀ (L : List Qd) (v2 : Value) (C2 : AHeap) (y cc xc : Nat) (D : Value → AHeap → Prop), Row B C2 33 5 v2 L.length (qcells L) → C2 y = none → L.length ≤ 1099511627776 → (∀ v3 C3, Row B C3 33 5 v3 (L ++ [q]).length (qcells (L ++ [q])) → D v3 C3) →
        appK Try.prog w0 [.int .i64 0, .int .i64 0, .int .i64 0, .int .i64 0, .int .i64 0] 33 40 v2 (.slice (some ⟨y, 0, none⟩) 1 xc) D (C2.set y ⟨q.cells, true, 33, cc⟩) := fun L v2 C2 y cc xc D r hy hL hD => r.one q hy hL rfl hD
    rcases hkk with rfl | rfl | rfl | rfl | rfl
    · simp at eq
      subst eq
      repeat' (first | simp -implicitDefEqProofs only [zG1,zG2,zG3,zG4,zG5,zG6,zG7,eq_self,resV,rval,X.val,binv,fillL,setR,↓reduceIte,Nat.reduceEqDiff,Nat.reduceAdd,Nat.reduceMul,Nat.reduceLeDiff,Nat.reduceLT,Nat.reduceSub,reduceCtorEq,zGq, g1, Int.reduceBNe])
      refine compileExprR_ok _ s.e A0 c0 B C1 _ _ qs he hEB rB (by omega) (fun v2 C2 r2 => ?_)
      have g2 := kn_eight (kx.trans r2.hle)
      repeat' (first | simp -implicitDefEqProofs only [zG1,zG2,zG3,zG4,zG5,zG6,zG7,eq_self,resV,rval,X.val,binv,fillL,setR,↓reduceIte,Nat.reduceEqDiff,Nat.reduceAdd,Nat.reduceMul,Nat.reduceLeDiff,Nat.reduceLT,Nat.reduceSub,reduceCtorEq,zGq, g2, Int.reduceBEq])
      refine rows_intro (fun y hy => ?_)
      repeat' (first | simp -implicitDefEqProofs only [zG1,zG2,zG3,zG4,zG5,zG6,zG7,eq_self,resV,rval,X.val,binv,fillL,setR,↓reduceIte,Nat.reduceEqDiff,Nat.reduceAdd,Nat.reduceMul,Nat.reduceLeDiff,Nat.reduceLT,Nat.reduceSub,reduceCtorEq,zGq])
      refine r2.one ⟨2, v, 4, 0, 0⟩ hy (by rw [List.length_append]; omega) rfl (fun v3 C3 r3 => ?_)
      repeat' (first | simp -implicitDefEqProofs only [zG1,zG2,zG3,zG4,zG5,zG6,zG7,eq_self,resV,rval,X.val,binv,fillL,setR,↓reduceIte,Nat.reduceEqDiff,Nat.reduceAdd,Nat.reduceMul,Nat.reduceLeDiff,Nat.reduceLT,Nat.reduceSub,reduceCtorEq,zGq])
      exact ret_same (h _ _ (by simpa only [List.append_assoc, show ¬ ((1 : Int) = 5 ∨ (1 : Int) = 6) by decide, if_false] using r3.base lB))
    · simp at eq
      subst eq
      repeat' (first | simp -implicitDefEqProofs only [zG1,zG2,zG3,zG4,zG5,zG6,zG7,eq_self,resV,rval,X.val,binv,fillL,setR,↓reduceIte,Nat.reduceEqDiff,Nat.reduceAdd,Nat.reduceMul,Nat.reduceLeDiff,Nat.reduceLT,Nat.reduceSub,reduceCtorEq,zGq, g1, Int.reduceBNe])
      refine compileExprR_ok _ s.e A0 c0 B C1 _ _ qs he hEB rB (by omega) (fun v2 C2 r2 => ?_)
      have g2 := kn_eight (kx.trans r2.hle)
      repeat' (first | simp -implicitDefEqProofs only [zG1,zG2,zG3,zG4,zG5,zG6,zG7,eq_self,resV,rval,X.val,binv,fillL,setR,↓reduceIte,Nat.reduceEqDiff,Nat.reduceAdd,Nat.reduceMul,Nat.reduceLeDiff,Nat.reduceLT,Nat.reduceSub,reduceCtorEq,zGq, g2, Int.reduceBEq])
      refine rows_intro (fun y hy => ?_)
      repeat' (first | simp -implicitDefEqProofs only [zG1,zG2,zG3,zG4,zG5,zG6,zG7,eq_self,resV,rval,X.val,binv,fillL,setR,↓reduceIte,Nat.reduceEqDiff,Nat.reduceAdd,Nat.reduceMul,Nat.reduceLeDiff,Nat.reduceLT,Nat.reduceSub,reduceCtorEq,zGq])
      refine r2.one ⟨6, 0, 4, 0, b⟩ hy (by rw [List.length_append]; omega) rfl (fun v3 C3 r3 => ?_)
      repeat' (first | simp -implicitDefEqProofs only [zG1,zG2,zG3,zG4,zG5,zG6,zG7,eq_self,resV,rval,X.val,binv,fillL,setR,↓reduceIte,Nat.reduceEqDiff,Nat.reduceAdd,Nat.reduceMul,Nat.reduceLeDiff,Nat.reduceLT,Nat.reduceSub,reduceCtorEq,zGq])
      exact ret_same (h _ _ (by simpa only [List.append_assoc, show ¬ ((4 : Int) = 5 ∨ (4 : Int) = 6) by decide, if_false] using r3.base lB))
    · simp at eq
      subst eq
      repeat' (first | simp -implicitDefEqProofs only [zG1,zG2,zG3,zG4,zG5,zG6,zG7,eq_self,resV,rval,X.val,binv,fillL,setR,↓reduceIte,Nat.reduceEqDiff,Nat.reduceAdd,Nat.reduceMul,Nat.reduceLeDiff,Nat.reduceLT,Nat.reduceSub,reduceCtorEq,zGq, g1, Int.reduceBNe, Int.reduceBEq])
      refine rows_intro (fun y hy => ?_)
      repeat' (first | simp -implicitDefEqProofs only [zG1,zG2,zG3,zG4,zG5,zG6,zG7,eq_self,resV,rval,X.val,binv,fillL,setR,↓reduceIte,Nat.reduceEqDiff,Nat.reduceAdd,Nat.reduceMul,Nat.reduceLeDiff,Nat.reduceLT,Nat.reduceSub,reduceCtorEq,zGq])
      refine rB.one ⟨7, v, 0, 0, b⟩ hy (by omega) rfl (fun v3 C3 r3 => ?_)
      repeat' (first | simp -implicitDefEqProofs only [zG1,zG2,zG3,zG4,zG5,zG6,zG7,eq_self,resV,rval,X.val,binv,fillL,setR,↓reduceIte,Nat.reduceEqDiff,Nat.reduceAdd,Nat.reduceMul,Nat.reduceLeDiff,Nat.reduceLT,Nat.reduceSub,reduceCtorEq,zGq])
      exact ret_same (h _ _ (by rw [if_pos (show (5 : Int) = 5 ∨ (5 : Int) = 6 by decide)]; exact r3.base lB))
    · simp at eq
      subst eq
      repeat' (first | simp -implicitDefEqProofs only [zG1,zG2,zG3,zG4,zG5,zG6,zG7,eq_self,resV,rval,X.val,binv,fillL,setR,↓reduceIte,Nat.reduceEqDiff,Nat.reduceAdd,Nat.reduceMul,Nat.reduceLeDiff,Nat.reduceLT,Nat.reduceSub,reduceCtorEq,zGq, g1, Int.reduceBNe, Int.reduceBEq])
      refine rows_intro (fun y hy => ?_)
      repeat' (first | simp -implicitDefEqProofs only [zG1,zG2,zG3,zG4,zG5,zG6,zG7,eq_self,resV,rval,X.val,binv,fillL,setR,↓reduceIte,Nat.reduceEqDiff,Nat.reduceAdd,Nat.reduceMul,Nat.reduceLeDiff,Nat.reduceLT,Nat.reduceSub,reduceCtorEq,zGq])
      refine rB.one ⟨8, 0, 0, 0, 0⟩ hy (by omega) rfl (fun v3 C3 r3 => ?_)
      repeat' (first | simp -implicitDefEqProofs only [zG1,zG2,zG3,zG4,zG5,zG6,zG7,eq_self,resV,rval,X.val,binv,fillL,setR,↓reduceIte,Nat.reduceEqDiff,Nat.reduceAdd,Nat.reduceMul,Nat.reduceLeDiff,Nat.reduceLT,Nat.reduceSub,reduceCtorEq,zGq])
      exact ret_same (h _ _ (by rw [if_pos (show (6 : Int) = 5 ∨ (6 : Int) = 6 by decide)]; exact r3.base lB))
    · simp at eq
      subst eq
      repeat' (first | simp -implicitDefEqProofs only [zG1,zG2,zG3,zG4,zG5,zG6,zG7,eq_self,resV,rval,X.val,binv,fillL,setR,↓reduceIte,Nat.reduceEqDiff,Nat.reduceAdd,Nat.reduceMul,Nat.reduceLeDiff,Nat.reduceLT,Nat.reduceSub,reduceCtorEq,zGq, g1, Int.reduceBNe])
      refine compileExprR_ok _ s.e A0 c0 B C1 _ _ qs he hEB rB (by omega) (fun v2 C2 r2 => ?_)
      have g2 := kn_eight (kx.trans r2.hle)
      repeat' (first | simp -implicitDefEqProofs only [zG1,zG2,zG3,zG4,zG5,zG6,zG7,eq_self,resV,rval,X.val,binv,fillL,setR,↓reduceIte,Nat.reduceEqDiff,Nat.reduceAdd,Nat.reduceMul,Nat.reduceLeDiff,Nat.reduceLT,Nat.reduceSub,reduceCtorEq,zGq, g2, Int.reduceBEq])
      refine rows_intro (fun y hy => ?_)
      repeat' (first | simp -implicitDefEqProofs only [zG1,zG2,zG3,zG4,zG5,zG6,zG7,eq_self,resV,rval,X.val,binv,fillL,setR,↓reduceIte,Nat.reduceEqDiff,Nat.reduceAdd,Nat.reduceMul,Nat.reduceLeDiff,Nat.reduceLT,Nat.reduceSub,reduceCtorEq,zGq])
      refine r2.one ⟨9, 0, 4, 0, 0⟩ hy (by rw [List.length_append]; omega) rfl (fun v3 C3 r3 => ?_)
      repeat' (first | simp -implicitDefEqProofs only [zG1,zG2,zG3,zG4,zG5,zG6,zG7,eq_self,resV,rval,X.val,binv,fillL,setR,↓reduceIte,Nat.reduceEqDiff,Nat.reduceAdd,Nat.reduceMul,Nat.reduceLeDiff,Nat.reduceLT,Nat.reduceSub,reduceCtorEq,zGq])
      exact ret_same (h _ _ (by simpa only [List.append_assoc, show ¬ ((7 : Int) = 5 ∨ (7 : Int) = 6) by decide, if_false] using r3.base lB))
theorem ksP : ∀ d, KsP w0 d
  | 0 => ksP_of w0 0 (csP_of w0 0 fun d' h => by omega)
  | d + 1 => ksP_of w0 (d + 1) (csP_of w0 (d + 1) fun d' h => by
    obtain rfl : d' = d := (by omega)
    exact ksP d')
/-- compileTask of valid statements. -/
theorem compileTaskI_ok (ss : List St) (A : Option Addr) (c : Nat) (H : AHeap) (K : Value → AHeap → Prop) (ho : stsOk ss = true) (hR : StR H ss A 0)
    (h : ∀ v C, Row H C 33 5 v (compTask ss).length (qcells (compTask ss)) → K v C) : ACalls Try.prog w0 35 [.slice A ss.length c] H K := by
  simp only [stsOk, Bool.and_eq_true, decide_eq_true_eq] at ho
  have hs := szL_le ss
  refine acalls_of_sx mix Try.func35 of35 (by simp [ir35]) ?_; rw [ir35]; (try delta qT qI qC qO qM qG)
  repeat' (first | simp -implicitDefEqProofs only [zG1,zG2,zG3,zG4,zG5,zG6,zG7,eq_self,resV,rval,X.val,binv,fillL,setR,↓reduceIte,Nat.reduceEqDiff,Nat.reduceAdd,Nat.reduceMul,Nat.reduceLeDiff,Nat.reduceLT,Nat.reduceSub,reduceCtorEq,zGq] | ((with_reducible refine rows_intro (fun _ hb => ?_)); try simp only [set_none, ne_eq] at hb) | ((with_reducible refine new_intro (fun _ hb => ?_)); try simp only [set_none, ne_eq] at hb) | (with_reducible refine draw_same ?_) | ((with_reducible refine gd_split ?_ (fun _ => ?_) (fun _ => ?_)); exact rfl) | ((with_reducible refine td_split ?_ (fun _ => ?_) (fun _ => ?_)); exact rfl) | (with_reducible refine c_split (fun _ => ?_) (fun _ => ?_)))
  refine ksP w0 3 ss A c H H _ _ [] ho.1 (by omega) (by simp) hR (Row.nil_ _ _ _) (fun v1 C1 r1 => ?_)
  repeat' (first | simp -implicitDefEqProofs only [zG1,zG2,zG3,zG4,zG5,zG6,zG7,eq_self,resV,rval,X.val,binv,fillL,setR,↓reduceIte,Nat.reduceEqDiff,Nat.reduceAdd,Nat.reduceMul,Nat.reduceLeDiff,Nat.reduceLT,Nat.reduceSub,reduceCtorEq,zGq] | ((with_reducible refine rows_intro (fun _ hb => ?_)); try simp only [set_none, ne_eq] at hb) | ((with_reducible refine new_intro (fun _ hb => ?_)); try simp only [set_none, ne_eq] at hb) | (with_reducible refine draw_same ?_) | ((with_reducible refine gd_split ?_ (fun _ => ?_) (fun _ => ?_)); exact rfl) | ((with_reducible refine td_split ?_ (fun _ => ?_) (fun _ => ?_)); exact rfl) | (with_reducible refine c_split (fun _ => ?_) (fun _ => ?_)))
  refine r1.one ⟨10, 0, 0, 0, 0⟩ hb (by rw [List.nil_append, compL_len]; omega) rfl (fun v2 C2 r2 => ?_)
  repeat' (first | simp -implicitDefEqProofs only [zG1,zG2,zG3,zG4,zG5,zG6,zG7,eq_self,resV,rval,X.val,binv,fillL,setR,↓reduceIte,Nat.reduceEqDiff,Nat.reduceAdd,Nat.reduceMul,Nat.reduceLeDiff,Nat.reduceLT,Nat.reduceSub,reduceCtorEq,zGq] | ((with_reducible refine rows_intro (fun _ hb => ?_)); try simp only [set_none, ne_eq] at hb) | ((with_reducible refine new_intro (fun _ hb => ?_)); try simp only [set_none, ne_eq] at hb) | (with_reducible refine draw_same ?_) | ((with_reducible refine gd_split ?_ (fun _ => ?_) (fun _ => ?_)); exact rfl) | ((with_reducible refine td_split ?_ (fun _ => ?_) (fun _ => ?_)); exact rfl) | (with_reducible refine c_split (fun _ => ?_) (fun _ => ?_)))
  exact ret_same (h _ _ r2)
theorem compileTask_ok (ss : List St) (A : Option Addr) (c : Nat) (H : AHeap) (K : Value → AHeap → Prop) (hc : cntL ss ≤ 1048576) (hR : StR H ss A 0)
    (h : ∀ v C, Row H C 33 5 v (compileTask ss).length (qcells (compileTask ss)) → K (.tuple #[v, .bool (stsOk ss)]) C) :
    ACalls Try.prog w0 17 [.slice A ss.length c] H K := by
  cases ho : stsOk ss with
  | false =>
    rw [ho] at h
    have e : compileTask ss = [] := by simp [compileTask, ho]
    rw [e] at h
    refine acalls_of_sx mix Try.func17 of17 (by simp [ir17]) ?_; rw [ir17]; (try delta qT qI qC qO qM qG)
    repeat' (first | simp -implicitDefEqProofs only [zG1,zG2,zG3,zG4,zG5,zG6,zG7,eq_self,resV,rval,X.val,binv,fillL,setR,↓reduceIte,Nat.reduceEqDiff,Nat.reduceAdd,Nat.reduceMul,Nat.reduceLeDiff,Nat.reduceLT,Nat.reduceSub,reduceCtorEq,zGq, ho] | ((with_reducible refine rows_intro (fun _ hb => ?_)); try simp only [set_none, ne_eq] at hb) | ((with_reducible refine new_intro (fun _ hb => ?_)); try simp only [set_none, ne_eq] at hb) | (with_reducible refine draw_same ?_) | ((with_reducible refine gd_split ?_ (fun _ => ?_) (fun _ => ?_)); exact rfl) | ((with_reducible refine td_split ?_ (fun _ => ?_) (fun _ => ?_)); exact rfl) | (with_reducible refine c_split (fun _ => ?_) (fun _ => ?_)) | (with_reducible refine stmtsValid_ok _ ss A c _ _ hc hR ?_))
    exact ret_same (h _ _ (Row.nil_ _ _ _))
  | true =>
    rw [ho] at h
    have e : compileTask ss = compTask ss := by simp [compileTask, ho]
    rw [e] at h
    refine acalls_of_sx mix Try.func17 of17 (by simp [ir17]) ?_; rw [ir17]; (try delta qT qI qC qO qM qG)
    repeat' (first | simp -implicitDefEqProofs only [zG1,zG2,zG3,zG4,zG5,zG6,zG7,eq_self,resV,rval,X.val,binv,fillL,setR,↓reduceIte,Nat.reduceEqDiff,Nat.reduceAdd,Nat.reduceMul,Nat.reduceLeDiff,Nat.reduceLT,Nat.reduceSub,reduceCtorEq,zGq, ho] | ((with_reducible refine rows_intro (fun _ hb => ?_)); try simp only [set_none, ne_eq] at hb) | ((with_reducible refine new_intro (fun _ hb => ?_)); try simp only [set_none, ne_eq] at hb) | (with_reducible refine draw_same ?_) | ((with_reducible refine gd_split ?_ (fun _ => ?_) (fun _ => ?_)); exact rfl) | ((with_reducible refine td_split ?_ (fun _ => ?_) (fun _ => ?_)); exact rfl) | (with_reducible refine c_split (fun _ => ?_) (fun _ => ?_)) | (with_reducible refine stmtsValid_ok _ ss A c _ _ hc hR ?_) | (with_reducible refine compileTaskI_ok _ ss A c _ _ ho hR (fun v1 C1 r1 => ?_)))
    exact ret_same (h _ _ r1)
end Go.Proofs.Ytjhedgoafkabiaa
namespace Go.Proofs.Ytjhedgoafkabiaa
set_option linter.all false
open Go Go.RowKit
set_option maxRecDepth 100000
variable (w0 : World)
theorem liP_of (d : Nat) (ih : SiP w0 d) : LiP w0 d := by
  intro ss A c i H K ho hc hi hR h
  have hl := cntL_len ss
  have hs := szL_le ss
  refine acalls_of_sx mix Try.func38 of38 (by simp [ir38]) ?_; rw [ir38]; (try delta qT qI qC qO qM qG)
  repeat' (first | simp -implicitDefEqProofs only [zG1,zG2,zG3,zG4,zG5,zG6,zG7,eq_self,resV,rval,X.val,binv,fillL,setR,↓reduceIte,Nat.reduceEqDiff,Nat.reduceAdd,Nat.reduceMul,Nat.reduceLeDiff,Nat.reduceLT,Nat.reduceSub,reduceCtorEq,zGq] | ((with_reducible refine rows_intro (fun _ hb => ?_)); try simp only [set_none, ne_eq] at hb) | ((with_reducible refine new_intro (fun _ hb => ?_)); try simp only [set_none, ne_eq] at hb) | (with_reducible refine draw_same ?_) | ((with_reducible refine gd_split ?_ (fun _ => ?_) (fun _ => ?_)); exact rfl) | ((with_reducible refine td_split ?_ (fun _ => ?_) (fun _ => ?_)); exact rfl) | (with_reducible refine c_split (fun _ => ?_) (fun _ => ?_)))
  refine for_rule ss.length (fun k fr C => ∃ v, Row H C 33 5 v (szL (ss.take k)) (qcells (compL (ss.take k) i)) ∧ fr 0 = .slice A ss.length c ∧ fr 1 = .int .i64 i ∧ fr 5 = v ∧ fr 6 = .int .i64 k)
    ⟨_, Row.lit0 hb, (by first | rfl | (simp only [put_at, ↓reduceIte, Nat.reduceEqDiff]; first | done | rfl | assumption) | simp [put_at, *]), (by first | rfl | (simp only [put_at, ↓reduceIte, Nat.reduceEqDiff]; first | done | rfl | assumption) | simp [put_at, *]), (by first | rfl | (simp only [put_at, ↓reduceIte, Nat.reduceEqDiff]; first | done | rfl | assumption) | simp [put_at, *]), (by first | rfl | (simp only [put_at, ↓reduceIte, Nat.reduceEqDiff]; first | done | rfl | assumption) | simp [put_at, *])⟩ ?_ ?_
  · rintro k fr C hk ⟨v, r1, f0, f1, f5, f6⟩ N hN
    obtain ⟨A5, e5, rfl, -⟩ := r1.fl
    have g0 := lt_dec hk
    have g1 := rng hk
    have g2 := up1 hk (by omega)
    obtain ⟨gA, a0, d0, a1, d1, a2, d2, gp, hx⟩ := (hR.le r1.hle).arg hk
    have hct := cntL_at hk
    have hsz := szL_take hk
    have hcm := compL_take hk i
    have hst := cntL_take hk
    have hle := cntL_le (ss := ss) (k + 1)
    have hs2 := szL_le (ss.take k)
    have hs3 := szS_le ss[k]
    have w1 := nat_add (a := i) (b := szL (ss.take k)) (by omega)
    have hok := List.all_eq_true.1 ho _ (List.getElem_mem hk)
    repeat' (first | simp -implicitDefEqProofs only [zG1,zG2,zG3,zG4,zG5,zG6,zG7,eq_self,resV,rval,X.val,binv,fillL,setR,↓reduceIte,Nat.reduceEqDiff,Nat.reduceAdd,Nat.reduceMul,Nat.reduceLeDiff,Nat.reduceLT,Nat.reduceSub,reduceCtorEq,zGq, f0, f1, f5, f6, g0, g1, g2, gA, gp, w1, Nat.add_zero] | ((with_reducible refine rows_intro (fun _ hb => ?_)); try simp only [set_none, ne_eq] at hb) | ((with_reducible refine new_intro (fun _ hb => ?_)); try simp only [set_none, ne_eq] at hb) | (with_reducible refine draw_same ?_) | ((with_reducible refine gd_split ?_ (fun _ => ?_) (fun _ => ?_)); exact rfl) | ((with_reducible refine td_split ?_ (fun _ => ?_) (fun _ => ?_)); exact rfl) | (with_reducible refine c_split (fun _ => ?_) (fun _ => ?_)) | (with_reducible refine ih ss[k] a0 d0 a1 d1 a2 d2 _ _ _ hok (by omega) (by omega) hx (fun v2 C2 r2 => ?_)))
    obtain ⟨A6, e6, rfl, f2⟩ := r2.fl
    repeat' (first | simp -implicitDefEqProofs only [zG1,zG2,zG3,zG4,zG5,zG6,zG7,eq_self,resV,rval,X.val,binv,fillL,setR,↓reduceIte,Nat.reduceEqDiff,Nat.reduceAdd,Nat.reduceMul,Nat.reduceLeDiff,Nat.reduceLT,Nat.reduceSub,reduceCtorEq,zGq] | ((with_reducible refine rows_intro (fun _ hb => ?_)); try simp only [set_none, ne_eq] at hb) | ((with_reducible refine new_intro (fun _ hb => ?_)); try simp only [set_none, ne_eq] at hb) | (with_reducible refine draw_same ?_) | ((with_reducible refine gd_split ?_ (fun _ => ?_) (fun _ => ?_)); exact rfl) | ((with_reducible refine td_split ?_ (fun _ => ?_) (fun _ => ?_)); exact rfl) | (with_reducible refine c_split (fun _ => ?_) (fun _ => ?_)))
    refine (r1.le r2.hle).app f2 (by rw [qcells_len, compS_len]; rfl) (qcells_oc _) (by simp only [maxLen]; omega) (by omega) (fun v3 C3 r3 => ?_)
    repeat' (first | simp -implicitDefEqProofs only [zG1,zG2,zG3,zG4,zG5,zG6,zG7,eq_self,resV,rval,X.val,binv,fillL,setR,↓reduceIte,Nat.reduceEqDiff,Nat.reduceAdd,Nat.reduceMul,Nat.reduceLeDiff,Nat.reduceLT,Nat.reduceSub,reduceCtorEq,zGq, f0, f1, f5, f6, g2] | ((with_reducible refine rows_intro (fun _ hb => ?_)); try simp only [set_none, ne_eq] at hb) | ((with_reducible refine new_intro (fun _ hb => ?_)); try simp only [set_none, ne_eq] at hb) | (with_reducible refine draw_same ?_) | ((with_reducible refine gd_split ?_ (fun _ => ?_) (fun _ => ?_)); exact rfl) | ((with_reducible refine td_split ?_ (fun _ => ?_) (fun _ => ?_)); exact rfl) | (with_reducible refine c_split (fun _ => ?_) (fun _ => ?_)))
    refine hN _ _ _ (.refl _) ⟨_, ?_, (by first | rfl | (simp only [put_at, ↓reduceIte, Nat.reduceEqDiff]; first | done | rfl | assumption) | simp [put_at, *]), (by first | rfl | (simp only [put_at, ↓reduceIte, Nat.reduceEqDiff]; first | done | rfl | assumption) | simp [put_at, *]), (by first | rfl | (simp only [put_at, ↓reduceIte, Nat.reduceEqDiff]; first | done | rfl | assumption) | simp [put_at, *]), (by first | rfl | (simp only [put_at, ↓reduceIte, Nat.reduceEqDiff]; first | done | rfl | assumption) | simp [put_at, *])⟩
    rw [hsz, hcm, qcells_app]
    exact r3
  · rintro fr C ⟨v, r1, f0, f1, f5, f6⟩ N
    have g0 : decide ((ss.length : Int) < (ss.length : Int)) = false := by simp
    rw [List.take_length] at r1
    repeat' (first | simp -implicitDefEqProofs only [zG1,zG2,zG3,zG4,zG5,zG6,zG7,eq_self,resV,rval,X.val,binv,fillL,setR,↓reduceIte,Nat.reduceEqDiff,Nat.reduceAdd,Nat.reduceMul,Nat.reduceLeDiff,Nat.reduceLT,Nat.reduceSub,reduceCtorEq,zGq, f0, f1, f5, f6, g0] | ((with_reducible refine rows_intro (fun _ hb => ?_)); try simp only [set_none, ne_eq] at hb) | ((with_reducible refine new_intro (fun _ hb => ?_)); try simp only [set_none, ne_eq] at hb) | (with_reducible refine draw_same ?_) | ((with_reducible refine gd_split ?_ (fun _ => ?_) (fun _ => ?_)); exact rfl) | ((with_reducible refine td_split ?_ (fun _ => ?_) (fun _ => ?_)); exact rfl) | (with_reducible refine c_split (fun _ => ?_) (fun _ => ?_)))
    exact ret_same (h _ _ r1)
theorem liP : ∀ d, LiP w0 d
  | 0 => liP_of w0 0 (siP_of w0 0 fun d' h => by omega)
  | d + 1 => liP_of w0 (d + 1) (siP_of w0 (d + 1) fun d' h => by
    obtain rfl : d' = d := (by omega)
    exact liP d')
theorem l22List0_ok (ss : List St) (A : Option Addr) (c : Nat) (H : AHeap) (K : Value → AHeap → Prop) (ho : ss.all (stOk 3) = true) (hc : cntL ss ≤ 1048576) (hR : StR H ss A 0)
    (h : ∀ v C, Row H C 33 5 v (szL ss) (qcells (compL ss 0)) → K v C) : ACalls Try.prog w0 38 [.slice A ss.length c, .int .i64 0] H K := liP w0 3 ss A c 0 H K ho hc (by omega) hR h
theorem compileTaskS_ok (ss : List St) (A : Option Addr) (c : Nat) (H : AHeap) (K : Value → AHeap → Prop) (hc : cntL ss ≤ 1048576) (hR : StR H ss A 0)
    (h : ∀ v C, Row H C 33 5 v (compileTask ss).length (qcells (compileTask ss)) → K (.tuple #[v, .bool (stsOk ss)]) C) :
    ACalls Try.prog w0 19 [.slice A ss.length c] H K := by
  cases ho : stsOk ss with
  | false =>
    rw [ho] at h
    have e : compileTask ss = [] := by simp [compileTask, ho]
    rw [e] at h
    refine acalls_of_sx mix Try.func19 of19 (by simp [ir19]) ?_; rw [ir19]; (try delta qT qI qC qO qM qG)
    repeat' (first | simp -implicitDefEqProofs only [zG1,zG2,zG3,zG4,zG5,zG6,zG7,eq_self,resV,rval,X.val,binv,fillL,setR,↓reduceIte,Nat.reduceEqDiff,Nat.reduceAdd,Nat.reduceMul,Nat.reduceLeDiff,Nat.reduceLT,Nat.reduceSub,reduceCtorEq,zGq, ho] | ((with_reducible refine rows_intro (fun _ hb => ?_)); try simp only [set_none, ne_eq] at hb) | ((with_reducible refine new_intro (fun _ hb => ?_)); try simp only [set_none, ne_eq] at hb) | (with_reducible refine draw_same ?_) | ((with_reducible refine gd_split ?_ (fun _ => ?_) (fun _ => ?_)); exact rfl) | ((with_reducible refine td_split ?_ (fun _ => ?_) (fun _ => ?_)); exact rfl) | (with_reducible refine c_split (fun _ => ?_) (fun _ => ?_)) | (with_reducible refine stmtsValidS_ok _ ss A c _ _ (by omega) hR ?_))
    exact ret_same (h _ _ (Row.lit0 hb))
  | true =>
    rw [ho] at h
    have e : compileTask ss = compTask ss := by simp [compileTask, ho]
    rw [e] at h
    have hn := compTask_len ss
    have hs := szL_le ss
    have hall : ss.all (stOk 3) = true := by simp only [stsOk, Bool.and_eq_true] at ho; exact ho.1
    refine acalls_of_sx mix Try.func19 of19 (by simp [ir19]) ?_; rw [ir19]; (try delta qT qI qC qO qM qG)
    repeat' (first | simp -implicitDefEqProofs only [zG1,zG2,zG3,zG4,zG5,zG6,zG7,eq_self,resV,rval,X.val,binv,fillL,setR,↓reduceIte,Nat.reduceEqDiff,Nat.reduceAdd,Nat.reduceMul,Nat.reduceLeDiff,Nat.reduceLT,Nat.reduceSub,reduceCtorEq,zGq, ho] | ((with_reducible refine rows_intro (fun _ hb => ?_)); try simp only [set_none, ne_eq] at hb) | ((with_reducible refine new_intro (fun _ hb => ?_)); try simp only [set_none, ne_eq] at hb) | (with_reducible refine draw_same ?_) | ((with_reducible refine gd_split ?_ (fun _ => ?_) (fun _ => ?_)); exact rfl) | ((with_reducible refine td_split ?_ (fun _ => ?_) (fun _ => ?_)); exact rfl) | (with_reducible refine c_split (fun _ => ?_) (fun _ => ?_)) | (with_reducible refine stmtsValidS_ok _ ss A c _ _ (by omega) hR ?_) | (with_reducible refine l22List0_ok _ ss A c _ _ hall hc hR (fun v1 C1 r1 => ?_)))
    refine r1.app1 (m := 1) hb rfl (by simp [ocI]) (by simp only [maxLen]; omega) (by omega) (fun v2 C2 r2 => ?_)
    repeat' (first | simp -implicitDefEqProofs only [zG1,zG2,zG3,zG4,zG5,zG6,zG7,eq_self,resV,rval,X.val,binv,fillL,setR,↓reduceIte,Nat.reduceEqDiff,Nat.reduceAdd,Nat.reduceMul,Nat.reduceLeDiff,Nat.reduceLT,Nat.reduceSub,reduceCtorEq,zGq] | ((with_reducible refine rows_intro (fun _ hb => ?_)); try simp only [set_none, ne_eq] at hb) | ((with_reducible refine new_intro (fun _ hb => ?_)); try simp only [set_none, ne_eq] at hb) | (with_reducible refine draw_same ?_) | ((with_reducible refine gd_split ?_ (fun _ => ?_) (fun _ => ?_)); exact rfl) | ((with_reducible refine td_split ?_ (fun _ => ?_) (fun _ => ?_)); exact rfl) | (with_reducible refine c_split (fun _ => ?_) (fun _ => ?_)))
    refine ret_same (h _ _ ?_)
    rw [hn]
    simp only [compTask, qcells_app, qcells_one', haltQ]
    exact r2
end Go.Proofs.Ytjhedgoafkabiaa
namespace Go.Proofs.Ytjhedgoafkabiaa
set_option linter.all false
open Go Go.RowKit
/-- A row of codes. -/
def FR (H : AHeap) (A : Option Addr) (L : List (List Qd)) : Prop := ∀ i (hi : i < L.length), A.isSome = true ∧ ∃ A' c, H.cell (adr A i) = some (.slice A' L[i].length c) ∧ Fl H A' (qcells L[i])
/-- A row of pairs, the row of numbers at place o (0 or 1), the number at place u. -/
def FP (H : AHeap) (A : Option Addr) (o u : Nat) (ts : List (List Int × Int)) : Prop := ∀ i (hi : i < ts.length), A.isSome = true ∧ ∃ A' c, H.cell (adr A (i * 2 + o)) = some (.slice A' ts[i].1.length c) ∧ H.cell (adr A (i * 2 + u)) = some (.int .i64 ts[i].2) ∧ Fl H A' (ints ts[i].1)
section
variable {H H' : AHeap} {A : Option Addr} {L : List (List Qd)} {o u : Nat} {ts : List (List Int × Int)}
theorem FR.le (h : FR H A L) (hl : AHeap.le H H') : FR H' A L := fun i hi => by
  obtain ⟨h1, A', c, h2, h3⟩ := h i hi
  exact ⟨h1, A', c, hl.cell h2, h3.le hl⟩
theorem FP.le (h : FP H A o u ts) (hl : AHeap.le H H') : FP H' A o u ts := fun i hi => by
  obtain ⟨h1, A', c, h2, h3, h4⟩ := h i hi
  exact ⟨h1, A', c, hl.cell h2, hl.cell h3, h4.le hl⟩
end
end Go.Proofs.Ytjhedgoafkabiaa
namespace Go.Proofs.Ytjhedgoafkabiaa
set_option linter.all false
open Go Go.RowKit
theorem repl_at (x : Value) (n i : Nat) (h : i < n) : (repl [x] n)[i]? = some x := by
  induction n generalizing i with
  | zero => cases h
  | succ n ih =>
    cases i with
    | zero => rfl
    | succ i => exact ih i (by omega)
theorem repl_len1 (x : Value) (n : Nat) : (repl [x] n).length = n := by
  induction n with
  | zero => rfl
  | succ n ih => simp only [repl, List.length_append, ih, List.length_cons, List.length_nil]; omega
theorem Rs.nils {C : AHeap} {b : Nat} {t' t : TypeId} {sz n : Nat} (h : Kn C b ⟨repl [.slice none 0 0] n, true, t', n * 1⟩) (hn : n ≤ maxLen) : Rs C t' t sz (.slice (some ⟨b, 0, none⟩) n n) (List.replicate n []) [b] := by
  refine ⟨repl [.slice none 0 0] n, [b], List.replicate n [], ?_, by simp, fun x hx => hx, fun i ib hi => ?_, fun i xs hi => ?_⟩
  · have := Rw.mk (n := n) h (by rw [repl_len1, Nat.mul_one]) (Nat.le_refl _) hn
    rwa [List.length_replicate]
  · simp only [List.getElem?_replicate] at hi
    split at hi
    · obtain rfl := Option.some.inj hi
      exact ⟨fun x hx => (by cases hx), fun j jb _ _ x hx => (by cases hx)⟩
    · cases hi
  · simp only [List.getElem?_replicate] at hi
    split at hi
    · rename_i hlt
      obtain rfl := Option.some.inj hi
      exact ⟨_, [], 0, repl_at _ _ _ hlt, by simp [hlt], Rw.nil_ _ _ _⟩
    · cases hi
theorem Rs.fr {C : AHeap} {A : Option Addr} {m c : Nat} {t' t : TypeId} {L : List (List Qd)} {bs : List Nat} (h : Rs C t' t 5 (.slice A m c) (L.map qcells) bs) : FR C A L := fun i hi => by
  obtain ⟨h1, A', n, c', h2, h3, h4⟩ := h.row (i := i) (by rw [List.length_map]; exact hi)
  rw [List.getElem_map] at h3 h4
  rw [qcells_len] at h4
  have : n = L[i].length := by omega
  subst this
  exact ⟨h1, A', c', h2, h3⟩
end Go.Proofs.Ytjhedgoafkabiaa
namespace Go.Proofs.Ytjhedgoafkabiaa
set_option linter.all false
open Go Go.RowKit
set_option maxRecDepth 100000
variable (w0 : World)
/-- A row of lists of statements. -/
def SR (H : AHeap) (A : Option Addr) (ts : List (List St)) : Prop := ∀ i (hi : i < ts.length), A.isSome = true ∧ ∃ A' c, H.cell (adr A i) = some (.slice A' ts[i].length c) ∧ StR H ts[i] A' 0
theorem SR.le {H H' : AHeap} {A : Option Addr} {ts : List (List St)} (h : SR H A ts) (hl : AHeap.le H H') : SR H' A ts := fun i hi => by
  obtain ⟨h1, A', c, h2, h3⟩ := h i hi
  exact ⟨h1, A', c, hl.cell h2, StR.le hl h3⟩
def roomB (r : Int) : Bool := decide (1 ≤ r) && decide (r ≤ 4)
def roomsOk (rs : List Int) : Bool := rs.all roomB && decide (rs.length ≤ 3)
def progOk (rs : List Int) (ts : List (List St)) : Bool := roomsOk rs && (decide (1 ≤ ts.length) && decide (ts.length ≤ 3)) && ts.all (fun ss => stsOk ss && bxL rs.length ss)
def compProg (rs : List Int) (ts : List (List St)) : List (List Qd) := if progOk rs ts then ts.map compTask else []
theorem roomsValid_ok (H : AHeap) (K : Value → AHeap → Prop) (A : Option Addr) (c : Nat) (rs : List Int) (hx : Fl H A (ints rs)) (hn : rs.length ≤ 4611686018427387904) (h : K (.bool (roomsOk rs)) H) : ACalls Try.prog w0 63 [.slice A rs.length c] H K := by
  refine acalls_of_sx mix Try.func63 of63 (by simp [ir63]) ?_; rw [ir63]; (try delta qT qI qC qO qM qG)
  repeat' (first | simp -implicitDefEqProofs only [zG1,zG2,zG3,zG4,zG5,zG6,zG7,eq_self,resV,rval,X.val,binv,fillL,setR,↓reduceIte,Nat.reduceEqDiff,Nat.reduceAdd,Nat.reduceMul,Nat.reduceLeDiff,Nat.reduceLT,Nat.reduceSub,reduceCtorEq,zGq] | ((with_reducible refine rows_intro (fun _ hb => ?_)); try simp only [set_none, ne_eq] at hb) | ((with_reducible refine new_intro (fun _ hb => ?_)); try simp only [set_none, ne_eq] at hb) | (with_reducible refine draw_same ?_) | ((with_reducible refine gd_split ?_ (fun _ => ?_) (fun _ => ?_)); exact rfl) | ((with_reducible refine td_split ?_ (fun _ => ?_) (fun _ => ?_)); exact rfl) | (with_reducible refine c_split (fun _ => ?_) (fun _ => ?_)))
  refine for_rule rs.length (fun k fr C => C = H ∧ (∀ i (hi : i < rs.length), i < k → roomB rs[i] = true) ∧ fr 0 = .slice A rs.length c ∧ fr 5 = .slice A rs.length c ∧ fr 6 = .int .i64 rs.length ∧ fr 7 = .int .i64 k) ⟨rfl, fun i _ hi => by omega, (by first | rfl | (simp only [put_at, ↓reduceIte, Nat.reduceEqDiff]; first | done | rfl | assumption) | simp [put_at, *]), (by first | rfl | (simp only [put_at, ↓reduceIte, Nat.reduceEqDiff]; first | done | rfl | assumption) | simp [put_at, *]), (by first | rfl | (simp only [put_at, ↓reduceIte, Nat.reduceEqDiff]; first | done | rfl | assumption) | simp [put_at, *]), (by first | rfl | (simp only [put_at, ↓reduceIte, Nat.reduceEqDiff]; first | done | rfl | assumption) | simp [put_at, *])⟩ ?_ ?_
  · rintro k fr _ hk ⟨rfl, hok, f0, f5, f6, f7⟩ N hN
    have g0 := lt_dec hk
    have g1 := rng hk
    have g2 := up1 hk hn
    have q0 := hx.ints_is hk
    have q1 := hx.int hk
    cases hr : roomB rs[k] with
    | false =>
      have e : roomsOk rs = false := by
        have : rs.all roomB = false := by rw [List.all_eq_false]; exact ⟨_, List.getElem_mem hk, by simp [hr]⟩
        rw [roomsOk, this]; rfl
      rw [e] at h
      cases p1 : decide (rs[k] < 1) with
      | true =>
        repeat' (first | simp -implicitDefEqProofs only [zG1,zG2,zG3,zG4,zG5,zG6,zG7,eq_self,resV,rval,X.val,binv,fillL,setR,↓reduceIte,Nat.reduceEqDiff,Nat.reduceAdd,Nat.reduceMul,Nat.reduceLeDiff,Nat.reduceLT,Nat.reduceSub,reduceCtorEq,zGq, f0, f5, f6, f7, g0, g1, q0, q1, p1, Nat.mul_one] | ((with_reducible refine rows_intro (fun _ hb => ?_)); try simp only [set_none, ne_eq] at hb) | ((with_reducible refine new_intro (fun _ hb => ?_)); try simp only [set_none, ne_eq] at hb) | (with_reducible refine draw_same ?_) | ((with_reducible refine gd_split ?_ (fun _ => ?_) (fun _ => ?_)); exact rfl) | ((with_reducible refine td_split ?_ (fun _ => ?_) (fun _ => ?_)); exact rfl) | (with_reducible refine c_split (fun _ => ?_) (fun _ => ?_)))
        exact ret_same h
      | false =>
        have p2 : decide (rs[k] > 4) = true := by
          simp only [decide_eq_false_iff_not] at p1
          simp only [roomB, Bool.and_eq_false_iff, decide_eq_false_iff_not] at hr
          simp; omega
        repeat' (first | simp -implicitDefEqProofs only [zG1,zG2,zG3,zG4,zG5,zG6,zG7,eq_self,resV,rval,X.val,binv,fillL,setR,↓reduceIte,Nat.reduceEqDiff,Nat.reduceAdd,Nat.reduceMul,Nat.reduceLeDiff,Nat.reduceLT,Nat.reduceSub,reduceCtorEq,zGq, f0, f5, f6, f7, g0, g1, q0, q1, p1, p2, Nat.mul_one] | ((with_reducible refine rows_intro (fun _ hb => ?_)); try simp only [set_none, ne_eq] at hb) | ((with_reducible refine new_intro (fun _ hb => ?_)); try simp only [set_none, ne_eq] at hb) | (with_reducible refine draw_same ?_) | ((with_reducible refine gd_split ?_ (fun _ => ?_) (fun _ => ?_)); exact rfl) | ((with_reducible refine td_split ?_ (fun _ => ?_) (fun _ => ?_)); exact rfl) | (with_reducible refine c_split (fun _ => ?_) (fun _ => ?_)))
        exact ret_same h
    | true =>
      have hr' := hr
      simp only [roomB, Bool.and_eq_true, decide_eq_true_eq] at hr'
      have p1 : decide (rs[k] < 1) = false := by simp; omega
      have p2 : decide (rs[k] > 4) = false := by simp; omega
      repeat' (first | simp -implicitDefEqProofs only [zG1,zG2,zG3,zG4,zG5,zG6,zG7,eq_self,resV,rval,X.val,binv,fillL,setR,↓reduceIte,Nat.reduceEqDiff,Nat.reduceAdd,Nat.reduceMul,Nat.reduceLeDiff,Nat.reduceLT,Nat.reduceSub,reduceCtorEq,zGq, f0, f5, f6, f7, g0, g1, g2, q0, q1, p1, p2, Nat.mul_one] | ((with_reducible refine rows_intro (fun _ hb => ?_)); try simp only [set_none, ne_eq] at hb) | ((with_reducible refine new_intro (fun _ hb => ?_)); try simp only [set_none, ne_eq] at hb) | (with_reducible refine draw_same ?_) | ((with_reducible refine gd_split ?_ (fun _ => ?_) (fun _ => ?_)); exact rfl) | ((with_reducible refine td_split ?_ (fun _ => ?_) (fun _ => ?_)); exact rfl) | (with_reducible refine c_split (fun _ => ?_) (fun _ => ?_)))
      refine hN _ _ _ (.refl _) ⟨rfl, fun i hi hik => ?_, (by first | rfl | (simp only [put_at, ↓reduceIte, Nat.reduceEqDiff]; first | done | rfl | assumption) | simp [put_at, *]), (by first | rfl | (simp only [put_at, ↓reduceIte, Nat.reduceEqDiff]; first | done | rfl | assumption) | simp [put_at, *]), (by first | rfl | (simp only [put_at, ↓reduceIte, Nat.reduceEqDiff]; first | done | rfl | assumption) | simp [put_at, *]), (by first | rfl | (simp only [put_at, ↓reduceIte, Nat.reduceEqDiff]; first | done | rfl | assumption) | simp [put_at, *])⟩
      rcases Nat.lt_succ_iff_lt_or_eq.1 hik with hik | rfl
      · exact hok i hi hik
      · exact hr
  · rintro fr _ ⟨rfl, hok, f0, f5, f6, f7⟩ N
    have g0 : decide ((rs.length : Int) < (rs.length : Int)) = false := by simp
    have hall : rs.all roomB = true := by
      rw [List.all_eq_true]
      intro x hx
      obtain ⟨i, hi, rfl⟩ := List.getElem_of_mem hx
      exact hok i hi hi
    repeat' (first | simp -implicitDefEqProofs only [zG1,zG2,zG3,zG4,zG5,zG6,zG7,eq_self,resV,rval,X.val,binv,fillL,setR,↓reduceIte,Nat.reduceEqDiff,Nat.reduceAdd,Nat.reduceMul,Nat.reduceLeDiff,Nat.reduceLT,Nat.reduceSub,reduceCtorEq,zGq, f0, f5, f6, f7, g0] | ((with_reducible refine rows_intro (fun _ hb => ?_)); try simp only [set_none, ne_eq] at hb) | ((with_reducible refine new_intro (fun _ hb => ?_)); try simp only [set_none, ne_eq] at hb) | (with_reducible refine draw_same ?_) | ((with_reducible refine gd_split ?_ (fun _ => ?_) (fun _ => ?_)); exact rfl) | ((with_reducible refine td_split ?_ (fun _ => ?_) (fun _ => ?_)); exact rfl) | (with_reducible refine c_split (fun _ => ?_) (fun _ => ?_)))
    refine ret_same (kb h ?_)
    rw [roomsOk, hall, Bool.true_and, decide_eq_decide]; omega
theorem l12Rooms_ok (H : AHeap) (K : Value → AHeap → Prop) (A : Option Addr) (c : Nat) (rs : List Int) (hx : Fl H A (ints rs)) (hn : rs.length ≤ 4611686018427387904) (h : K (.bool (roomsOk rs)) H) : ACalls Try.prog w0 64 [.slice A rs.length c] H K := by
  refine acalls_of_sx mix Try.func64 of64 (by simp [ir64]) ?_; rw [ir64]; (try delta qT qI qC qO qM qG)
  repeat' (first | simp -implicitDefEqProofs only [zG1,zG2,zG3,zG4,zG5,zG6,zG7,eq_self,resV,rval,X.val,binv,fillL,setR,↓reduceIte,Nat.reduceEqDiff,Nat.reduceAdd,Nat.reduceMul,Nat.reduceLeDiff,Nat.reduceLT,Nat.reduceSub,reduceCtorEq,zGq] | ((with_reducible refine rows_intro (fun _ hb => ?_)); try simp only [set_none, ne_eq] at hb) | ((with_reducible refine new_intro (fun _ hb => ?_)); try simp only [set_none, ne_eq] at hb) | (with_reducible refine draw_same ?_) | ((with_reducible refine gd_split ?_ (fun _ => ?_) (fun _ => ?_)); exact rfl) | ((with_reducible refine td_split ?_ (fun _ => ?_) (fun _ => ?_)); exact rfl) | (with_reducible refine c_split (fun _ => ?_) (fun _ => ?_)))
  refine for_rule rs.length (fun k fr C => C = H ∧ (∀ i (hi : i < rs.length), i < k → roomB rs[i] = true) ∧ fr 0 = .slice A rs.length c ∧ fr 3 = .int .i64 k) ⟨rfl, fun i _ hi => by omega, (by first | rfl | (simp only [put_at, ↓reduceIte, Nat.reduceEqDiff]; first | done | rfl | assumption) | simp [put_at, *]), (by first | rfl | (simp only [put_at, ↓reduceIte, Nat.reduceEqDiff]; first | done | rfl | assumption) | simp [put_at, *])⟩ ?_ ?_
  · rintro k fr _ hk ⟨rfl, hok, f0, f7⟩ N hN
    have g0 := lt_dec hk
    have g1 := rng hk
    have g2 := up1 hk hn
    have q0 := hx.ints_is hk
    have q1 := hx.int hk
    cases hr : roomB rs[k] with
    | false =>
      have e : roomsOk rs = false := by
        have : rs.all roomB = false := by rw [List.all_eq_false]; exact ⟨_, List.getElem_mem hk, by simp [hr]⟩
        rw [roomsOk, this]; rfl
      rw [e] at h
      rw [roomB] at hr
      repeat' (first | simp -implicitDefEqProofs only [zG1,zG2,zG3,zG4,zG5,zG6,zG7,eq_self,resV,rval,X.val,binv,fillL,setR,↓reduceIte,Nat.reduceEqDiff,Nat.reduceAdd,Nat.reduceMul,Nat.reduceLeDiff,Nat.reduceLT,Nat.reduceSub,reduceCtorEq,zGq, f0, f7, g0, g1, q0, q1, hr, Nat.mul_one] | ((with_reducible refine rows_intro (fun _ hb => ?_)); try simp only [set_none, ne_eq] at hb) | ((with_reducible refine new_intro (fun _ hb => ?_)); try simp only [set_none, ne_eq] at hb) | (with_reducible refine draw_same ?_) | ((with_reducible refine gd_split ?_ (fun _ => ?_) (fun _ => ?_)); exact rfl) | ((with_reducible refine td_split ?_ (fun _ => ?_) (fun _ => ?_)); exact rfl) | (with_reducible refine c_split (fun _ => ?_) (fun _ => ?_)) | (with_reducible refine l6In_ok _ _ _ _ _ _ ?_))
      exact ret_same h
    | true =>
      have hr' := hr
      rw [roomB] at hr'
      repeat' (first | simp -implicitDefEqProofs only [zG1,zG2,zG3,zG4,zG5,zG6,zG7,eq_self,resV,rval,X.val,binv,fillL,setR,↓reduceIte,Nat.reduceEqDiff,Nat.reduceAdd,Nat.reduceMul,Nat.reduceLeDiff,Nat.reduceLT,Nat.reduceSub,reduceCtorEq,zGq, f0, f7, g0, g1, g2, q0, q1, hr', Nat.mul_one] | ((with_reducible refine rows_intro (fun _ hb => ?_)); try simp only [set_none, ne_eq] at hb) | ((with_reducible refine new_intro (fun _ hb => ?_)); try simp only [set_none, ne_eq] at hb) | (with_reducible refine draw_same ?_) | ((with_reducible refine gd_split ?_ (fun _ => ?_) (fun _ => ?_)); exact rfl) | ((with_reducible refine td_split ?_ (fun _ => ?_) (fun _ => ?_)); exact rfl) | (with_reducible refine c_split (fun _ => ?_) (fun _ => ?_)) | (with_reducible refine l6In_ok _ _ _ _ _ _ ?_))
      refine hN _ _ _ (.refl _) ⟨rfl, fun i hi hik => ?_, (by first | rfl | (simp only [put_at, ↓reduceIte, Nat.reduceEqDiff]; first | done | rfl | assumption) | simp [put_at, *]), (by first | rfl | (simp only [put_at, ↓reduceIte, Nat.reduceEqDiff]; first | done | rfl | assumption) | simp [put_at, *])⟩
      rcases Nat.lt_succ_iff_lt_or_eq.1 hik with hik | rfl
      · exact hok i hi hik
      · exact hr
  · rintro fr _ ⟨rfl, hok, f0, f7⟩ N
    have g0 : decide ((rs.length : Int) < (rs.length : Int)) = false := by simp
    have hall : rs.all roomB = true := by
      rw [List.all_eq_true]
      intro x hx
      obtain ⟨i, hi, rfl⟩ := List.getElem_of_mem hx
      exact hok i hi hi
    repeat' (first | simp -implicitDefEqProofs only [zG1,zG2,zG3,zG4,zG5,zG6,zG7,eq_self,resV,rval,X.val,binv,fillL,setR,↓reduceIte,Nat.reduceEqDiff,Nat.reduceAdd,Nat.reduceMul,Nat.reduceLeDiff,Nat.reduceLT,Nat.reduceSub,reduceCtorEq,zGq, f0, f7, g0] | ((with_reducible refine rows_intro (fun _ hb => ?_)); try simp only [set_none, ne_eq] at hb) | ((with_reducible refine new_intro (fun _ hb => ?_)); try simp only [set_none, ne_eq] at hb) | (with_reducible refine draw_same ?_) | ((with_reducible refine gd_split ?_ (fun _ => ?_) (fun _ => ?_)); exact rfl) | ((with_reducible refine td_split ?_ (fun _ => ?_) (fun _ => ?_)); exact rfl) | (with_reducible refine c_split (fun _ => ?_) (fun _ => ?_)))
    refine ret_same (kb h ?_)
    rw [roomsOk, hall, Bool.true_and, decide_eq_decide]; omega
abbrev LbP (m : Nat) (ss : List St) : Prop := ∀ (A : Option Addr) (c : Nat) (H : AHeap) (K : Value → AHeap → Prop), cntL ss ≤ 1099511627776 → StR H ss A 0 → K (.bool (bxL m ss)) H → ACalls Try.prog w0 66 [.slice A ss.length c, .int .i64 (m : Int)] H K
theorem bxL_false {m : Nat} {ss : List St} {k : Nat} (hk : k < ss.length) (h : bxS m ss[k] = false) : bxL m ss = false := by
  rw [bxL_all, List.all_eq_false]
  exact ⟨_, List.getElem_mem hk, by simp [h]⟩
theorem lbP_of (m : Nat) (ss : List St) (ih : ∀ s ∈ ss, LbP w0 m s.body ∧ LbP w0 m s.els) : LbP w0 m ss := by
  intro A c H K hc hR h
  have hl := cntL_len ss
  refine acalls_of_sx mix Try.func66 of66 (by simp [ir66]) ?_; rw [ir66]; (try delta qT qI qC qO qM qG)
  repeat' (first | simp -implicitDefEqProofs only [zG1,zG2,zG3,zG4,zG5,zG6,zG7,eq_self,resV,rval,X.val,binv,fillL,setR,↓reduceIte,Nat.reduceEqDiff,Nat.reduceAdd,Nat.reduceMul,Nat.reduceLeDiff,Nat.reduceLT,Nat.reduceSub,reduceCtorEq,zGq] | ((with_reducible refine rows_intro (fun _ hb => ?_)); try simp only [set_none, ne_eq] at hb) | ((with_reducible refine new_intro (fun _ hb => ?_)); try simp only [set_none, ne_eq] at hb) | (with_reducible refine draw_same ?_) | ((with_reducible refine gd_split ?_ (fun _ => ?_) (fun _ => ?_)); exact rfl) | ((with_reducible refine td_split ?_ (fun _ => ?_) (fun _ => ?_)); exact rfl) | (with_reducible refine c_split (fun _ => ?_) (fun _ => ?_)))
  refine for_rule ss.length (fun k fr C => C = H ∧ (∀ i (hi : i < ss.length), i < k → bxS m ss[i] = true) ∧ fr 0 = .slice A ss.length c ∧ fr 1 = .int .i64 (m : Int) ∧ fr 5 = .int .i64 k)
    ⟨rfl, fun i _ hi => by omega, (by first | rfl | (simp only [put_at, ↓reduceIte, Nat.reduceEqDiff]; first | done | rfl | assumption) | simp [put_at, *]), (by first | rfl | (simp only [put_at, ↓reduceIte, Nat.reduceEqDiff]; first | done | rfl | assumption) | simp [put_at, *]), (by first | rfl | (simp only [put_at, ↓reduceIte, Nat.reduceEqDiff]; first | done | rfl | assumption) | simp [put_at, *])⟩ ?_ ?_
  · rintro k fr _ hk ⟨rfl, hok, f0, f1, f5⟩ N hN
    have g0 := lt_dec hk
    have g1 := rng hk
    have g2 := up1 hk (by omega)
    obtain ⟨gA, a0, d0, a1, d1, a2, d2, gp, hx⟩ := hR.arg hk
    obtain ⟨_, ⟨_, hb⟩, _, hls⟩ := hx.parts
    have hct := cntL_at hk
    have hcs := ss[k].cnt_eq
    have hbx := bxS_eq m ss[k]
    obtain ⟨ih1, ih2⟩ := ih ss[k] (List.getElem_mem hk)
    have bad : bxS m ss[k] = false → K (.bool false) _ := fun e => by rw [bxL_false hk e] at h; exact h
    have one : bx1 m ss[k] = !((ss[k].kind == 4 || ss[k].kind == 5) && decide (ss[k].box ≥ (m : Int))) := by
      rw [Bool.eq_iff_iff]
      simp only [bx1, Bool.or_eq_true, decide_eq_true_eq, Bool.not_eq_true', Bool.and_eq_false_iff, Bool.or_eq_false_iff, beq_eq_false_iff_ne, decide_eq_false_iff_not]
      omega
    have sub1 : ∀ (C : AHeap) (D : Value → AHeap → Prop), AHeap.le _ C → D (.bool (bxL m ss[k].body)) C → ACalls Try.prog w0 66 [.slice a1 ss[k].body.length d1, .int .i64 (m : Int)] C D := fun C D lc hD => ih1 a1 d1 C D (by omega) (StR.le lc hb) hD
    have sub2 : ∀ (C : AHeap) (D : Value → AHeap → Prop), AHeap.le _ C → D (.bool (bxL m ss[k].els)) C → ACalls Try.prog w0 66 [.slice a2 ss[k].els.length d2, .int .i64 (m : Int)] C D := fun C D lc hD => ih2 a2 d2 C D (by omega) (StR.le lc hls) hD
    repeat' (first | simp -implicitDefEqProofs only [zG1,zG2,zG3,zG4,zG5,zG6,zG7,eq_self,resV,rval,X.val,binv,fillL,setR,↓reduceIte,Nat.reduceEqDiff,Nat.reduceAdd,Nat.reduceMul,Nat.reduceLeDiff,Nat.reduceLT,Nat.reduceSub,reduceCtorEq,zGq, f0, f1, f5, g0, g1, gA, gp, Nat.add_zero])
    refine new_intro (fun x6 h6 => ?_)
    have l6 := (AHeap.le.refl _).fresh h6 ⟨[.int .i64 0, .int .i64 0, .int .i64 0, .int .i64 0, .int .i64 0, .slice none 0 0, .slice none 0 0, .slice none 0 0], true, 63, 8⟩
    have l7 := (AHeap.le.refl _).fresh h6 ⟨stc ss[k].kind ss[k].var ss[k].box ss[k].e ss[k].body.length ss[k].els.length a0 d0 a1 d1 a2 d2, true, 63, 8⟩
    rw [← bxL_all, ← bxL_all] at hbx
    have go : ∀ (fr' : Fr) (C : AHeap), AHeap.le _ C → bxS m ss[k] = true → fr' 0 = .slice A ss.length c → fr' 1 = .int .i64 (m : Int) → fr' 5 = .int .i64 ((k + 1 : Nat) : Int) → N fr' C := fun fr' C lc e a b d => hN _ _ _ lc ⟨rfl, fun i hi hik => by
      rcases Nat.lt_succ_iff_lt_or_eq.1 hik with hik | rfl
      · exact hok i hi hik
      · exact e, a, b, d⟩
    cases hk1 : (ss[k].kind == 4 || ss[k].kind == 5) with
    | true =>
      cases hk2 : decide (ss[k].box ≥ (m : Int)) with
      | true =>
        rw [one, hk1, hk2] at hbx
        have hf := bad (by rw [hbx]; rfl)
        cases k4 : (ss[k].kind == 4) with
        | true =>
          repeat' (first | simp -implicitDefEqProofs only [zG1,zG2,zG3,zG4,zG5,zG6,zG7,eq_self,resV,rval,X.val,binv,fillL,setR,↓reduceIte,Nat.reduceEqDiff,Nat.reduceAdd,Nat.reduceMul,Nat.reduceLeDiff,Nat.reduceLT,Nat.reduceSub,reduceCtorEq,zGq, f0, f1, f5, g0, g1, g2, k4, hk2] | ((with_reducible refine rows_intro (fun _ hb => ?_)); try simp only [set_none, ne_eq] at hb) | ((with_reducible refine new_intro (fun _ hb => ?_)); try simp only [set_none, ne_eq] at hb) | (with_reducible refine draw_same ?_) | ((with_reducible refine gd_split ?_ (fun _ => ?_) (fun _ => ?_)); exact rfl) | ((with_reducible refine td_split ?_ (fun _ => ?_) (fun _ => ?_)); exact rfl) | (with_reducible refine c_split (fun _ => ?_) (fun _ => ?_)))
          exact ⟨_, l7, hf⟩
        | false =>
          have k5 : (ss[k].kind == 5) = true := by rw [k4] at hk1; simpa using hk1
          repeat' (first | simp -implicitDefEqProofs only [zG1,zG2,zG3,zG4,zG5,zG6,zG7,eq_self,resV,rval,X.val,binv,fillL,setR,↓reduceIte,Nat.reduceEqDiff,Nat.reduceAdd,Nat.reduceMul,Nat.reduceLeDiff,Nat.reduceLT,Nat.reduceSub,reduceCtorEq,zGq, f0, f1, f5, g0, g1, g2, k4, k5, hk2] | ((with_reducible refine rows_intro (fun _ hb => ?_)); try simp only [set_none, ne_eq] at hb) | ((with_reducible refine new_intro (fun _ hb => ?_)); try simp only [set_none, ne_eq] at hb) | (with_reducible refine draw_same ?_) | ((with_reducible refine gd_split ?_ (fun _ => ?_) (fun _ => ?_)); exact rfl) | ((with_reducible refine td_split ?_ (fun _ => ?_) (fun _ => ?_)); exact rfl) | (with_reducible refine c_split (fun _ => ?_) (fun _ => ?_)))
          exact ⟨_, l7, hf⟩
      | false =>
        rw [one, hk1, hk2] at hbx
        cases hb1 : bxL m ss[k].body with
        | false =>
          rw [hb1] at sub1 hbx
          have hf := bad (by rw [hbx]; rfl)
          cases k4 : (ss[k].kind == 4) with
          | true =>
            repeat' (first | simp -implicitDefEqProofs only [zG1,zG2,zG3,zG4,zG5,zG6,zG7,eq_self,resV,rval,X.val,binv,fillL,setR,↓reduceIte,Nat.reduceEqDiff,Nat.reduceAdd,Nat.reduceMul,Nat.reduceLeDiff,Nat.reduceLT,Nat.reduceSub,reduceCtorEq,zGq, f0, f1, f5, g0, g1, g2, k4, hk2] | ((with_reducible refine rows_intro (fun _ hb => ?_)); try simp only [set_none, ne_eq] at hb) | ((with_reducible refine new_intro (fun _ hb => ?_)); try simp only [set_none, ne_eq] at hb) | (with_reducible refine draw_same ?_) | ((with_reducible refine gd_split ?_ (fun _ => ?_) (fun _ => ?_)); exact rfl) | ((with_reducible refine td_split ?_ (fun _ => ?_) (fun _ => ?_)); exact rfl) | (with_reducible refine c_split (fun _ => ?_) (fun _ => ?_)) | (with_reducible refine sub1 _ _ l7 ?_))
            exact ⟨_, l7, hf⟩
          | false =>
            have k5 : (ss[k].kind == 5) = true := by rw [k4] at hk1; simpa using hk1
            repeat' (first | simp -implicitDefEqProofs only [zG1,zG2,zG3,zG4,zG5,zG6,zG7,eq_self,resV,rval,X.val,binv,fillL,setR,↓reduceIte,Nat.reduceEqDiff,Nat.reduceAdd,Nat.reduceMul,Nat.reduceLeDiff,Nat.reduceLT,Nat.reduceSub,reduceCtorEq,zGq, f0, f1, f5, g0, g1, g2, k4, k5, hk2] | ((with_reducible refine rows_intro (fun _ hb => ?_)); try simp only [set_none, ne_eq] at hb) | ((with_reducible refine new_intro (fun _ hb => ?_)); try simp only [set_none, ne_eq] at hb) | (with_reducible refine draw_same ?_) | ((with_reducible refine gd_split ?_ (fun _ => ?_) (fun _ => ?_)); exact rfl) | ((with_reducible refine td_split ?_ (fun _ => ?_) (fun _ => ?_)); exact rfl) | (with_reducible refine c_split (fun _ => ?_) (fun _ => ?_)) | (with_reducible refine sub1 _ _ l7 ?_))
            exact ⟨_, l7, hf⟩
        | true =>
          rw [hb1] at sub1 hbx
          cases hb2 : bxL m ss[k].els with
          | false =>
            rw [hb2] at sub2 hbx
            have hf := bad (by rw [hbx]; rfl)
            cases k4 : (ss[k].kind == 4) with
            | true =>
              repeat' (first | simp -implicitDefEqProofs only [zG1,zG2,zG3,zG4,zG5,zG6,zG7,eq_self,resV,rval,X.val,binv,fillL,setR,↓reduceIte,Nat.reduceEqDiff,Nat.reduceAdd,Nat.reduceMul,Nat.reduceLeDiff,Nat.reduceLT,Nat.reduceSub,reduceCtorEq,zGq, f0, f1, f5, g0, g1, g2, k4, hk2] | ((with_reducible refine rows_intro (fun _ hb => ?_)); try simp only [set_none, ne_eq] at hb) | ((with_reducible refine new_intro (fun _ hb => ?_)); try simp only [set_none, ne_eq] at hb) | (with_reducible refine draw_same ?_) | ((with_reducible refine gd_split ?_ (fun _ => ?_) (fun _ => ?_)); exact rfl) | ((with_reducible refine td_split ?_ (fun _ => ?_) (fun _ => ?_)); exact rfl) | (with_reducible refine c_split (fun _ => ?_) (fun _ => ?_)) | (with_reducible refine sub1 _ _ l7 ?_) | (with_reducible refine sub2 _ _ l7 ?_))
              exact ⟨_, l7, hf⟩
            | false =>
              have k5 : (ss[k].kind == 5) = true := by rw [k4] at hk1; simpa using hk1
              repeat' (first | simp -implicitDefEqProofs only [zG1,zG2,zG3,zG4,zG5,zG6,zG7,eq_self,resV,rval,X.val,binv,fillL,setR,↓reduceIte,Nat.reduceEqDiff,Nat.reduceAdd,Nat.reduceMul,Nat.reduceLeDiff,Nat.reduceLT,Nat.reduceSub,reduceCtorEq,zGq, f0, f1, f5, g0, g1, g2, k4, k5, hk2] | ((with_reducible refine rows_intro (fun _ hb => ?_)); try simp only [set_none, ne_eq] at hb) | ((with_reducible refine new_intro (fun _ hb => ?_)); try simp only [set_none, ne_eq] at hb) | (with_reducible refine draw_same ?_) | ((with_reducible refine gd_split ?_ (fun _ => ?_) (fun _ => ?_)); exact rfl) | ((with_reducible refine td_split ?_ (fun _ => ?_) (fun _ => ?_)); exact rfl) | (with_reducible refine c_split (fun _ => ?_) (fun _ => ?_)) | (with_reducible refine sub1 _ _ l7 ?_) | (with_reducible refine sub2 _ _ l7 ?_))
              exact ⟨_, l7, hf⟩
          | true =>
            rw [hb2] at sub2 hbx
            cases k4 : (ss[k].kind == 4) with
            | true =>
              repeat' (first | simp -implicitDefEqProofs only [zG1,zG2,zG3,zG4,zG5,zG6,zG7,eq_self,resV,rval,X.val,binv,fillL,setR,↓reduceIte,Nat.reduceEqDiff,Nat.reduceAdd,Nat.reduceMul,Nat.reduceLeDiff,Nat.reduceLT,Nat.reduceSub,reduceCtorEq,zGq, f0, f1, f5, g0, g1, g2, k4, hk2] | ((with_reducible refine rows_intro (fun _ hb => ?_)); try simp only [set_none, ne_eq] at hb) | ((with_reducible refine new_intro (fun _ hb => ?_)); try simp only [set_none, ne_eq] at hb) | (with_reducible refine draw_same ?_) | ((with_reducible refine gd_split ?_ (fun _ => ?_) (fun _ => ?_)); exact rfl) | ((with_reducible refine td_split ?_ (fun _ => ?_) (fun _ => ?_)); exact rfl) | (with_reducible refine c_split (fun _ => ?_) (fun _ => ?_)) | (with_reducible refine sub1 _ _ l7 ?_) | (with_reducible refine sub2 _ _ l7 ?_))
              exact go _ _ l7 hbx (by first | rfl | (simp only [put_at, ↓reduceIte, Nat.reduceEqDiff]; first | done | rfl | assumption) | simp [put_at, *]) (by first | rfl | (simp only [put_at, ↓reduceIte, Nat.reduceEqDiff]; first | done | rfl | assumption) | simp [put_at, *]) (by first | rfl | (simp only [put_at, ↓reduceIte, Nat.reduceEqDiff]; first | done | rfl | assumption) | simp [put_at, *])
            | false =>
              have k5 : (ss[k].kind == 5) = true := by rw [k4] at hk1; simpa using hk1
              repeat' (first | simp -implicitDefEqProofs only [zG1,zG2,zG3,zG4,zG5,zG6,zG7,eq_self,resV,rval,X.val,binv,fillL,setR,↓reduceIte,Nat.reduceEqDiff,Nat.reduceAdd,Nat.reduceMul,Nat.reduceLeDiff,Nat.reduceLT,Nat.reduceSub,reduceCtorEq,zGq, f0, f1, f5, g0, g1, g2, k4, k5, hk2] | ((with_reducible refine rows_intro (fun _ hb => ?_)); try simp only [set_none, ne_eq] at hb) | ((with_reducible refine new_intro (fun _ hb => ?_)); try simp only [set_none, ne_eq] at hb) | (with_reducible refine draw_same ?_) | ((with_reducible refine gd_split ?_ (fun _ => ?_) (fun _ => ?_)); exact rfl) | ((with_reducible refine td_split ?_ (fun _ => ?_) (fun _ => ?_)); exact rfl) | (with_reducible refine c_split (fun _ => ?_) (fun _ => ?_)) | (with_reducible refine sub1 _ _ l7 ?_) | (with_reducible refine sub2 _ _ l7 ?_))
              exact go _ _ l7 hbx (by first | rfl | (simp only [put_at, ↓reduceIte, Nat.reduceEqDiff]; first | done | rfl | assumption) | simp [put_at, *]) (by first | rfl | (simp only [put_at, ↓reduceIte, Nat.reduceEqDiff]; first | done | rfl | assumption) | simp [put_at, *]) (by first | rfl | (simp only [put_at, ↓reduceIte, Nat.reduceEqDiff]; first | done | rfl | assumption) | simp [put_at, *])
    | false =>
      rw [one, hk1] at hbx
      have k4 : (ss[k].kind == 4) = false := by simp only [Bool.or_eq_false_iff] at hk1; exact hk1.1
      have k5 : (ss[k].kind == 5) = false := by simp only [Bool.or_eq_false_iff] at hk1; exact hk1.2
      cases hb1 : bxL m ss[k].body with
      | false =>
        rw [hb1] at sub1 hbx
        have hf := bad (by rw [hbx]; rfl)
        repeat' (first | simp -implicitDefEqProofs only [zG1,zG2,zG3,zG4,zG5,zG6,zG7,eq_self,resV,rval,X.val,binv,fillL,setR,↓reduceIte,Nat.reduceEqDiff,Nat.reduceAdd,Nat.reduceMul,Nat.reduceLeDiff,Nat.reduceLT,Nat.reduceSub,reduceCtorEq,zGq, f0, f1, f5, g0, g1, g2, k4, k5] | ((with_reducible refine rows_intro (fun _ hb => ?_)); try simp only [set_none, ne_eq] at hb) | ((with_reducible refine new_intro (fun _ hb => ?_)); try simp only [set_none, ne_eq] at hb) | (with_reducible refine draw_same ?_) | ((with_reducible refine gd_split ?_ (fun _ => ?_) (fun _ => ?_)); exact rfl) | ((with_reducible refine td_split ?_ (fun _ => ?_) (fun _ => ?_)); exact rfl) | (with_reducible refine c_split (fun _ => ?_) (fun _ => ?_)) | (with_reducible refine sub1 _ _ l7 ?_))
        exact ⟨_, l7, hf⟩
      | true =>
        rw [hb1] at sub1 hbx
        cases hb2 : bxL m ss[k].els with
        | false =>
          rw [hb2] at sub2 hbx
          have hf := bad (by rw [hbx]; rfl)
          repeat' (first | simp -implicitDefEqProofs only [zG1,zG2,zG3,zG4,zG5,zG6,zG7,eq_self,resV,rval,X.val,binv,fillL,setR,↓reduceIte,Nat.reduceEqDiff,Nat.reduceAdd,Nat.reduceMul,Nat.reduceLeDiff,Nat.reduceLT,Nat.reduceSub,reduceCtorEq,zGq, f0, f1, f5, g0, g1, g2, k4, k5] | ((with_reducible refine rows_intro (fun _ hb => ?_)); try simp only [set_none, ne_eq] at hb) | ((with_reducible refine new_intro (fun _ hb => ?_)); try simp only [set_none, ne_eq] at hb) | (with_reducible refine draw_same ?_) | ((with_reducible refine gd_split ?_ (fun _ => ?_) (fun _ => ?_)); exact rfl) | ((with_reducible refine td_split ?_ (fun _ => ?_) (fun _ => ?_)); exact rfl) | (with_reducible refine c_split (fun _ => ?_) (fun _ => ?_)) | (with_reducible refine sub1 _ _ l7 ?_) | (with_reducible refine sub2 _ _ l7 ?_))
          exact ⟨_, l7, hf⟩
        | true =>
          rw [hb2] at sub2 hbx
          repeat' (first | simp -implicitDefEqProofs only [zG1,zG2,zG3,zG4,zG5,zG6,zG7,eq_self,resV,rval,X.val,binv,fillL,setR,↓reduceIte,Nat.reduceEqDiff,Nat.reduceAdd,Nat.reduceMul,Nat.reduceLeDiff,Nat.reduceLT,Nat.reduceSub,reduceCtorEq,zGq, f0, f1, f5, g0, g1, g2, k4, k5] | ((with_reducible refine rows_intro (fun _ hb => ?_)); try simp only [set_none, ne_eq] at hb) | ((with_reducible refine new_intro (fun _ hb => ?_)); try simp only [set_none, ne_eq] at hb) | (with_reducible refine draw_same ?_) | ((with_reducible refine gd_split ?_ (fun _ => ?_) (fun _ => ?_)); exact rfl) | ((with_reducible refine td_split ?_ (fun _ => ?_) (fun _ => ?_)); exact rfl) | (with_reducible refine c_split (fun _ => ?_) (fun _ => ?_)) | (with_reducible refine sub1 _ _ l7 ?_) | (with_reducible refine sub2 _ _ l7 ?_))
          exact go _ _ l7 hbx (by first | rfl | (simp only [put_at, ↓reduceIte, Nat.reduceEqDiff]; first | done | rfl | assumption) | simp [put_at, *]) (by first | rfl | (simp only [put_at, ↓reduceIte, Nat.reduceEqDiff]; first | done | rfl | assumption) | simp [put_at, *]) (by first | rfl | (simp only [put_at, ↓reduceIte, Nat.reduceEqDiff]; first | done | rfl | assumption) | simp [put_at, *])
  · rintro fr _ ⟨rfl, hok, f0, f1, f5⟩ N
    have g0 : decide ((ss.length : Int) < (ss.length : Int)) = false := by simp
    have hall : bxL m ss = true := by
      rw [bxL_all, List.all_eq_true]
      intro x hx
      obtain ⟨i, hi, rfl⟩ := List.getElem_of_mem hx
      exact hok i hi hi
    rw [hall] at h
    repeat' (first | simp -implicitDefEqProofs only [zG1,zG2,zG3,zG4,zG5,zG6,zG7,eq_self,resV,rval,X.val,binv,fillL,setR,↓reduceIte,Nat.reduceEqDiff,Nat.reduceAdd,Nat.reduceMul,Nat.reduceLeDiff,Nat.reduceLT,Nat.reduceSub,reduceCtorEq,zGq, f0, f1, f5, g0] | ((with_reducible refine rows_intro (fun _ hb => ?_)); try simp only [set_none, ne_eq] at hb) | ((with_reducible refine new_intro (fun _ hb => ?_)); try simp only [set_none, ne_eq] at hb) | (with_reducible refine draw_same ?_) | ((with_reducible refine gd_split ?_ (fun _ => ?_) (fun _ => ?_)); exact rfl) | ((with_reducible refine td_split ?_ (fun _ => ?_) (fun _ => ?_)); exact rfl) | (with_reducible refine c_split (fun _ => ?_) (fun _ => ?_)))
    exact ret_same h
mutual
theorem lbS_ok (m : Nat) : ∀ s : St, LbP w0 m s.body ∧ LbP w0 m s.els
  | .mk k v b e body els => ⟨lbP_of w0 m body (lbL_ok m body), lbP_of w0 m els (lbL_ok m els)⟩
theorem lbL_ok (m : Nat) : ∀ ss : List St, ∀ s ∈ ss, LbP w0 m s.body ∧ LbP w0 m s.els
  | [], s, h => by cases h
  | x :: xs, s, h => by
    rcases List.mem_cons.1 h with h | h
    · rw [h]; exact lbS_ok m x
    · exact lbL_ok m xs s h
end
theorem l12Boxes_ok (m : Nat) (ss : List St) : LbP w0 m ss := lbP_of w0 m ss (lbL_ok w0 m ss)
end Go.Proofs.Ytjhedgoafkabiaa
namespace Go.Proofs.Ytjhedgoafkabiaa
set_option linter.all false
open Go Go.RowKit
set_option maxRecDepth 100000
variable (w0 : World)
theorem ints_snoc (rs : List Int) (n : Int) : ints (rs ++ [n]) = ints rs ++ [.int .i64 n] := by simp [ints]
theorem l92Rooms_ok {S : Src} {b : Nat} {H : AHeap} {p : Int} (K : Value → AHeap → Prop) (hr : RdK S H b p) (h0 : 0 ≤ p) (h1 : p ≤ 1099511300000)
    (h : ∀ (rs : List Int) v bs C q, RdK S C b q → Dr H C b → New H bs → Rw C 3 1 v rs.length (ints rs) bs → rs.length ≤ 3 → p ≤ q → q ≤ p + 4 → K v C) : ACalls Try.prog w0 82 [.pointer (some ⟨b, 0, none⟩)] H K := by
  refine acalls_of_sx mix Try.func82 of82 (by simp [ir82]) ?_; rw [ir82]; (try delta qT qI qC qO qM qG)
  repeat' (first | simp -implicitDefEqProofs only [zG1,zG2,zG3,zG4,zG5,zG6,zG7,eq_self,resV,rval,X.val,binv,fillL,setR,↓reduceIte,Nat.reduceEqDiff,Nat.reduceAdd,Nat.reduceMul,Nat.reduceLeDiff,Nat.reduceLT,Nat.reduceSub,reduceCtorEq,zGq])
  refine rows_intro (fun x6 h6 => ?_)
  repeat' (first | simp -implicitDefEqProofs only [zG1,zG2,zG3,zG4,zG5,zG6,zG7,eq_self,resV,rval,X.val,binv,fillL,setR,↓reduceIte,Nat.reduceEqDiff,Nat.reduceAdd,Nat.reduceMul,Nat.reduceLeDiff,Nat.reduceLT,Nat.reduceSub,reduceCtorEq,zGq])
  refine rows_intro (fun x7 h7 => ?_)
  simp only [set_none, ne_eq] at h7
  have lx := ((AHeap.le.refl H).fresh h6 ⟨[], true, 3, 0⟩).fresh (set_none.2 h7) ⟨[.int .i64 0, .int .i64 1, .int .i64 1, .int .i64 2, .int .i64 2, .int .i64 3], true, 3, 6⟩
  have k7 : Kn ((H.set x6 ⟨[], true, 3, 0⟩).set x7 ⟨[.int .i64 0, .int .i64 1, .int .i64 1, .int .i64 2, .int .i64 2, .int .i64 3], true, 3, 6⟩) x7 ⟨[.int .i64 0, .int .i64 1, .int .i64 1, .int .i64 2, .int .i64 2, .int .i64 3], true, 3, 6⟩ := Kn.same _ _ _
  have k6 : Kn ((H.set x6 ⟨[], true, 3, 0⟩).set x7 ⟨[.int .i64 0, .int .i64 1, .int .i64 1, .int .i64 2, .int .i64 2, .int .i64 3], true, 3, 6⟩) x6 ⟨[], true, 3, 0⟩ := (Kn.same _ _ _).set (fun e => h7.1 e.symm) _
  repeat' (first | simp -implicitDefEqProofs only [zG1,zG2,zG3,zG4,zG5,zG6,zG7,eq_self,resV,rval,X.val,binv,fillL,setR,↓reduceIte,Nat.reduceEqDiff,Nat.reduceAdd,Nat.reduceMul,Nat.reduceLeDiff,Nat.reduceLT,Nat.reduceSub,reduceCtorEq,zGq])
  generalize (H.set x6 _).set x7 _ = C1 at lx k6 k7 ⊢
  have r1 := hr.le lx
  have d1 := hr.dr lx
  have hx7b : ¬ x7 = b := by rintro rfl; exact hr.ne h7.2
  have hx6b : ¬ x6 = b := by rintro rfl; exact hr.ne h6
  refine pickK_ok _ _ r1 6 (by omega) (by omega) (by decide) (fun u C2 r2 d2 hu0 hu1 => ?_)
  obtain ⟨j, rfl⟩ := nat3 hu0
  have hj : j < 6 := by omega
  have k7' := d2.kn k7 hx7b
  have k6' := d2.kn k6 hx6b
  obtain ⟨n, hn, cn⟩ : ∃ n : Nat, n ≤ 3 ∧ C2.cell (some ⟨x7, j, none⟩) = some (.int .i64 (n : Int)) := by
    match j, hj with
    | 0, _ => exact ⟨0, by omega, k7'.cell (j := 0) rfl⟩
    | 1, _ => exact ⟨1, by omega, k7'.cell (j := 1) rfl⟩
    | 2, _ => exact ⟨1, by omega, k7'.cell (j := 2) rfl⟩
    | 3, _ => exact ⟨2, by omega, k7'.cell (j := 3) rfl⟩
    | 4, _ => exact ⟨2, by omega, k7'.cell (j := 4) rfl⟩
    | 5, _ => exact ⟨3, by omega, k7'.cell (j := 5) rfl⟩
  have gj := rng (k := j) (n := 6) hj
  repeat' (first | simp -implicitDefEqProofs only [zG1,zG2,zG3,zG4,zG5,zG6,zG7,eq_self,resV,rval,X.val,binv,fillL,setR,↓reduceIte,Nat.reduceEqDiff,Nat.reduceAdd,Nat.reduceMul,Nat.reduceLeDiff,Nat.reduceLT,Nat.reduceSub,reduceCtorEq,zGq, gj, cn, adr_lit, Nat.zero_add, Nat.mul_one])
  refine for_rule n (fun k fr C => ∃ (rs : List Int) (v : Value) (bs : List Nat) (q : Int), RdK S C b q ∧ Dr H C b ∧ New H bs ∧ Rw C 3 1 v rs.length (ints rs) bs ∧ rs.length = k ∧ p ≤ q ∧ q ≤ p + 1 + k ∧ fr 0 = .pointer (some ⟨b, 0, none⟩) ∧ fr 3 = v ∧ fr 4 = .int .i64 (n : Int) ∧ fr 5 = .int .i64 k)
    ⟨[], _, [x6], _, r2, d1.trans d2, New.one h6, Rw.mk (cap := 0) (by rw [Nat.zero_mul]; exact k6') (by simp [ints]) (Nat.le_refl _) (by decide), rfl, by omega, by omega, (by first | rfl | (simp only [put_at, ↓reduceIte, Nat.reduceEqDiff]; first | done | rfl | assumption) | simp [put_at, *]), (by first | rfl | (simp only [put_at, ↓reduceIte, Nat.reduceEqDiff]; first | done | rfl | assumption) | simp [put_at, *]), (by first | rfl | (simp only [put_at, ↓reduceIte, Nat.reduceEqDiff]; first | done | rfl | assumption) | simp [put_at, *]), (by first | rfl | (simp only [put_at, ↓reduceIte, Nat.reduceEqDiff]; first | done | rfl | assumption) | simp [put_at, *])⟩ ?_ ?_
  · rintro k fr C hk ⟨rs, v, bs, q, r3, d3, nb, w, hlen, hq0, hq1, f0, f3, f4, f5⟩ N hN
    obtain ⟨V, cv, rfl, -⟩ := w.fl
    have g0 := lt_dec hk
    have g2 := up1 hk (by omega)
    have hbs : ¬ b ∈ bs := fun hm => d3.b0 (nb b hm)
    repeat' (first | simp -implicitDefEqProofs only [zG1,zG2,zG3,zG4,zG5,zG6,zG7,eq_self,resV,rval,X.val,binv,fillL,setR,↓reduceIte,Nat.reduceEqDiff,Nat.reduceAdd,Nat.reduceMul,Nat.reduceLeDiff,Nat.reduceLT,Nat.reduceSub,reduceCtorEq,zGq, f0, f3, f4, f5, g0])
    refine rows_intro (fun x8 h8 => ?_)
    have l8 := (AHeap.le.refl C).fresh h8 ⟨[.int .i64 1, .int .i64 1, .int .i64 2, .int .i64 3, .int .i64 4], true, 3, 5⟩
    have k8 := Kn.same C x8 ⟨[.int .i64 1, .int .i64 1, .int .i64 2, .int .i64 3, .int .i64 4], true, 3, 5⟩
    repeat' (first | simp -implicitDefEqProofs only [zG1,zG2,zG3,zG4,zG5,zG6,zG7,eq_self,resV,rval,X.val,binv,fillL,setR,↓reduceIte,Nat.reduceEqDiff,Nat.reduceAdd,Nat.reduceMul,Nat.reduceLeDiff,Nat.reduceLT,Nat.reduceSub,reduceCtorEq,zGq, f0, f3, f4, f5])
    generalize C.set x8 _ = C4 at l8 k8 ⊢
    have hx8b : ¬ x8 = b := by rintro rfl; exact r3.ne h8
    refine pickK_ok _ _ (r3.le l8) 5 (by omega) (by omega) (by decide) (fun u C5 r5 d5 hv0 hv1 => ?_)
    obtain ⟨i, rfl⟩ := nat3 hv0
    have hi : i < 5 := by omega
    have k8' := d5.kn k8 hx8b
    obtain ⟨z, cz⟩ : ∃ z : Int, C5.cell (some ⟨x8, i, none⟩) = some (.int .i64 z) := by
      match i, hi with
      | 0, _ => exact ⟨_, k8'.cell (j := 0) rfl⟩
      | 1, _ => exact ⟨_, k8'.cell (j := 1) rfl⟩
      | 2, _ => exact ⟨_, k8'.cell (j := 2) rfl⟩
      | 3, _ => exact ⟨_, k8'.cell (j := 3) rfl⟩
      | 4, _ => exact ⟨_, k8'.cell (j := 4) rfl⟩
    have gi := rng (k := i) (n := 5) hi
    repeat' (first | simp -implicitDefEqProofs only [zG1,zG2,zG3,zG4,zG5,zG6,zG7,eq_self,resV,rval,X.val,binv,fillL,setR,↓reduceIte,Nat.reduceEqDiff,Nat.reduceAdd,Nat.reduceMul,Nat.reduceLeDiff,Nat.reduceLT,Nat.reduceSub,reduceCtorEq,zGq, f0, f3, f4, f5, gi, cz, adr_lit, Nat.zero_add, Nat.mul_one])
    refine rows_intro (fun x9 h9 => ?_)
    repeat' (first | simp -implicitDefEqProofs only [zG1,zG2,zG3,zG4,zG5,zG6,zG7,eq_self,resV,rval,X.val,binv,fillL,setR,↓reduceIte,Nat.reduceEqDiff,Nat.reduceAdd,Nat.reduceMul,Nat.reduceLeDiff,Nat.reduceLT,Nat.reduceSub,reduceCtorEq,zGq, f0, f3, f4, f5])
    have d45 := (r3.dr l8).trans d5
    have w5 : Rw C5 3 1 (.slice V rs.length cv) rs.length (ints rs) bs := w.chg (d45.toChg (bs := [b]) (by simp)) fun y hy hm => by
      simp only [List.mem_cons, List.not_mem_nil, or_false] at hm
      exact hbs (hm ▸ hy)
    have l9 := (AHeap.le.refl C5).fresh h9 ⟨[.int .i64 z], true, 3, 1⟩
    refine app_rw (z := [.int .i64 0]) (m := 1) (w5.trans l9) (Fl.blk _ _ _ _ fun _ _ h => h) rfl (by simp [ocI]) (by simp only [maxLen]; omega) (by omega) (fun v' C6 bs' hc6 hn6 w6 => ?_)
    have d6 := ((d3.trans d45).then_le l9).chg hc6 nb
    repeat' (first | simp -implicitDefEqProofs only [zG1,zG2,zG3,zG4,zG5,zG6,zG7,eq_self,resV,rval,X.val,binv,fillL,setR,↓reduceIte,Nat.reduceEqDiff,Nat.reduceAdd,Nat.reduceMul,Nat.reduceLeDiff,Nat.reduceLT,Nat.reduceSub,reduceCtorEq,zGq, f0, f3, f4, f5, g2])
    refine hN _ _ _ (.refl _) ⟨rs ++ [z], v', bs', _, (r5.le l9).chg hc6 hbs hr.fl d6.le, d6, fun y hy => ?_, by rw [List.length_append, ints_snoc]; exact w6, by rw [List.length_append, hlen]; rfl, by omega, by omega, (by first | rfl | (simp only [put_at, ↓reduceIte, Nat.reduceEqDiff]; first | done | rfl | assumption) | simp [put_at, *]), (by first | rfl | (simp only [put_at, ↓reduceIte, Nat.reduceEqDiff]; first | done | rfl | assumption) | simp [put_at, *]), (by first | rfl | (simp only [put_at, ↓reduceIte, Nat.reduceEqDiff]; first | done | rfl | assumption) | simp [put_at, *]), (by first | rfl | (simp only [put_at, ↓reduceIte, Nat.reduceEqDiff]; first | done | rfl | assumption) | simp [put_at, *])⟩
    rcases hn6 y hy with g | g
    · exact nb y g
    · exact ((d3.trans d45).then_le l9).nov g
  · rintro fr C ⟨rs, v, bs, q, r3, d3, nb, w, hlen, hq0, hq1, f0, f3, f4, f5⟩ N
    have g0 : decide ((n : Int) < (n : Int)) = false := by simp
    repeat' (first | simp -implicitDefEqProofs only [zG1,zG2,zG3,zG4,zG5,zG6,zG7,eq_self,resV,rval,X.val,binv,fillL,setR,↓reduceIte,Nat.reduceEqDiff,Nat.reduceAdd,Nat.reduceMul,Nat.reduceLeDiff,Nat.reduceLT,Nat.reduceSub,reduceCtorEq,zGq, f0, f3, f4, f5, g0])
    exact ret_same (h rs v bs C q r3 d3 nb w (by omega) hq0 (by omega))
end Go.Proofs.Ytjhedgoafkabiaa
namespace Go.Proofs.Ytjhedgoafkabiaa
set_option linter.all false
open Go Go.RowKit
set_option maxRecDepth 100000
variable (w0 : World)
/-- What is not counted among the trees' blocks. -/
def Pd (H : AHeap) (b : Nat) (br bt E : List Nat) (y : Nat) : Prop := y ∈ bt ∨ y ∈ br ∨ y ∈ E ∨ y = b ∨ H y ≠ none
/-- A row of rows of statements, the trees in D. -/
def Tk (D C : AHeap) (v : Value) (ts : List (List St)) (bs : List Nat) : Prop := ∃ L : List (List Value), Rs C 23 63 8 v L bs ∧ L.length = ts.length ∧ ∀ i (hi : i < ts.length) (hl : i < L.length), StL D ts[i] L[i]
/-- A program that is being drawn: its rooms, its tasks, the reader, and the call's other blocks E. -/
structure Pg (S : Src) (b : Nat) (H C : AHeap) (q : Int) (vr vt : Value) (rs : List Int) (ts : List (List St)) (br bt E : List Nat) : Prop where
  r : RdK S C b q
  d : Dr H C b
  w : Rw C 3 1 vr rs.length (ints rs) br
  t : Tk (C.no (Pd H b br bt E)) C vt ts bt
  nr : New H br
  nt : New H bt
  rt : ∀ y, y ∈ br → ¬ y ∈ bt
  e : ∀ y, y ∈ E → C y ≠ none ∧ H y = none ∧ ¬ y ∈ br ∧ ¬ y ∈ bt
  k : ∀ y, y ∈ bt → C y ≠ none
  f : Fl (H.del b) S.A (u8s S.zs)
section
variable {S : Src} {b : Nat} {H C C' C1 C2 : AHeap} {q q' : Int} {vr vt : Value} {rs : List Int} {ts : List (List St)} {br bt E cs : List Nat} {x : Nat}
theorem Pg.kr (s : Pg S b H C q vr vt rs ts br bt E) : ∀ y, y ∈ br → C y ≠ none := fun y hy => by
  rcases s.w with ⟨_, _, _, rfl⟩ | ⟨b', cap, _, rfl, _, _, _, hk⟩
  · cases hy
  · simp only [List.mem_cons, List.not_mem_nil, or_false] at hy
    subst hy; exact hk.ne
theorem Pg.br_ (s : Pg S b H C q vr vt rs ts br bt E) : ¬ b ∈ br := fun h => s.d.b0 (s.nr b h)
theorem Pg.bt_ (s : Pg S b H C q vr vt rs ts br bt E) : ¬ b ∈ bt := fun h => s.d.b0 (s.nt b h)
theorem Pg.be_ (s : Pg S b H C q vr vt rs ts br bt E) : ¬ b ∈ E := fun h => s.d.b0 (s.e b h).2.1
/-- Only the reader and the call's other blocks change. -/
theorem Pg.mv (s : Pg S b H C q vr vt rs ts br bt E) (r' : RdK S C' b q') (d' : Dr H C' b) (hc : Chg C C' cs) (hcs : ∀ y, y ∈ cs → y ∈ E ∨ y = b) (hE : ∀ y, y ∈ E → C' y ≠ none) : Pg S b H C' q' vr vt rs ts br bt E := by
  have ar : ∀ y, y ∈ br → ¬ y ∈ cs := fun y hy hm => by
    rcases hcs y hm with h | rfl
    · exact (s.e y h).2.2.1 hy
    · exact s.br_ hy
  have at_ : ∀ y, y ∈ bt → ¬ y ∈ cs := fun y hy hm => by
    rcases hcs y hm with h | rfl
    · exact (s.e y h).2.2.2 hy
    · exact s.bt_ hy
  obtain ⟨L, hR, hL, hS⟩ := s.t
  have up : AHeap.le (C.no (Pd H b br bt E)) (C'.no (Pd H b br bt E)) := fun y k hy => by
    by_cases hp : Pd H b br bt E y
    · rw [no_in hp] at hy; cases hy
    · rw [no_out hp] at hy
      have hn : ¬ y ∈ cs := fun hm => hp ((hcs y hm).elim (fun h => .inr (.inr (.inl h))) fun h => .inr (.inr (.inr (.inl h))))
      obtain ⟨k2, h2, r2⟩ := hc y k hn hy
      exact ⟨k2, by rw [no_out hp]; exact h2, r2⟩
  refine ⟨r', d', s.w.chg hc ar, ⟨L, hR.chg hc at_, hL, fun i hi hl => (hS i hi hl).le up⟩, s.nr, s.nt, s.rt, fun y hy => ⟨hE y hy, (s.e y hy).2⟩, fun y hy h => ?_, s.f⟩
  cases hk : C y with
  | none => exact s.k y hy hk
  | some k => exact ((Kn.of hk).chg hc (at_ y hy)).ne h
theorem Pg.le (s : Pg S b H C q vr vt rs ts br bt E) (l : AHeap.le C C') : Pg S b H C' q vr vt rs ts br bt E :=
  s.mv (cs := []) (s.r.le l) (s.d.then_le l) (.of_le l) (fun y hy => by cases hy) fun y hy h => (s.e y hy).1 (l.none h)
theorem Pg.pick (s : Pg S b H C q vr vt rs ts br bt E) (r' : RdK S C' b q') (d' : Dr C C' b) : Pg S b H C' q' vr vt rs ts br bt E :=
  s.mv (cs := [b]) r' (s.d.trans d') (d'.toChg (by simp)) (fun y hy => .inr (by simpa using hy)) fun y hy h => (s.e y hy).1 (d'.nov h)
theorem Pg.st (s : Pg S b H C q vr vt rs ts br bt E) (hx : x ∈ E) (hc : Chg C C' [x]) (hk : C' x ≠ none) : Pg S b H C' q vr vt rs ts br bt E := by
  have hn : New H [x] := New.one (s.e x hx).2.1
  have d' := s.d.chg hc hn
  have hb : ¬ b ∈ [x] := fun h => by
    simp only [List.mem_cons, List.not_mem_nil, or_false] at h
    subst h; exact s.be_ hx
  refine s.mv (cs := [x]) (s.r.chg hc hb s.f d'.le) d' hc (fun y hy => .inl ?_) fun y hy h => ?_
  · simp only [List.mem_cons, List.not_mem_nil, or_false] at hy; subst hy; exact hx
  · by_cases hyx : y = x
    · subst hyx; exact hk h
    · cases hk' : C y with
      | none => exact (s.e y hy).1 hk'
      | some k => exact ((Kn.of hk').chg hc (by simpa using hyx)).ne h
/-- One more block of the call's. -/
theorem Pg.new (s : Pg S b H C q vr vt rs ts br bt E) (hx : C x = none) (k : Blk) : Pg S b H (C.set x k) q vr vt rs ts br bt (x :: E) := by
  have l := (AHeap.le.refl C).fresh hx k
  have g := s.le l
  have hxH := s.d.nov hx
  have hxr : ¬ x ∈ br := fun h => s.kr x h hx
  have hxt : ¬ x ∈ bt := fun h => s.k x h hx
  obtain ⟨L, hR, hL, hS⟩ := s.t
  have up : AHeap.le (C.no (Pd H b br bt E)) ((C.set x k).no (Pd H b br bt (x :: E))) := fun y k' hy => by
    by_cases hp : Pd H b br bt E y
    · rw [no_in hp] at hy; cases hy
    · rw [no_out hp] at hy
      have hyx : ¬ y = x := by rintro rfl; rw [hx] at hy; cases hy
      have hp' : ¬ Pd H b br bt (x :: E) y := by
        rintro (h | h | h | h | h)
        · exact hp (.inl h)
        · exact hp (.inr (.inl h))
        · exact (List.mem_cons.1 h).elim hyx fun h => hp (.inr (.inr (.inl h)))
        · exact hp (.inr (.inr (.inr (.inl h))))
        · exact hp (.inr (.inr (.inr (.inr h))))
      obtain ⟨k2, h2, r2⟩ := l y k' hy
      exact ⟨k2, by rw [no_out hp']; exact h2, r2⟩
  refine ⟨g.r, g.d, g.w, ⟨L, hR.trans l, hL, fun i hi hl => (hS i hi hl).le up⟩, s.nr, s.nt, s.rt, fun y hy => ?_, g.k, s.f⟩
  rcases List.mem_cons.1 hy with rfl | hy
  · exact ⟨by rw [set_same]; simp, hxH, hxr, hxt⟩
  · exact g.e y hy
/-- Over less, with the blocks that were made since. -/
theorem Pg.base {H0 : AHeap} {E' : List Nat} (s : Pg S b H C q vr vt rs ts br bt E) (d0 : Dr H0 H b) (hf : Fl (H0.del b) S.A (u8s S.zs)) (hE : ∀ y, y ∈ E' → y ∈ E ∨ (H y ≠ none ∧ H0 y = none)) : Pg S b H0 C q vr vt rs ts br bt E' := by
  obtain ⟨L, hR, hL, hS⟩ := s.t
  have hkn : ∀ y, H y ≠ none → C y ≠ none := fun y h e => h (s.d.nov e)
  have up : AHeap.le (C.no (Pd H b br bt E)) (C.no (Pd H0 b br bt E')) := fun y k' hy => by
    by_cases hp : Pd H b br bt E y
    · rw [no_in hp] at hy; cases hy
    · rw [no_out hp] at hy
      have hp' : ¬ Pd H0 b br bt E' y := by
        rintro (h | h | h | h | h)
        · exact hp (.inl h)
        · exact hp (.inr (.inl h))
        · exact (hE y h).elim (fun h => hp (.inr (.inr (.inl h)))) fun h => hp (.inr (.inr (.inr (.inr h.1))))
        · exact hp (.inr (.inr (.inr (.inl h))))
        · exact hp (.inr (.inr (.inr (.inr fun e => h (d0.nov e)))))
      exact ⟨k', by rw [no_out hp']; exact hy, rfl, rfl, rfl, fun _ _ h => h⟩
  refine ⟨s.r, d0.trans s.d, s.w, ⟨L, hR, hL, fun i hi hl => (hS i hi hl).le up⟩, fun y hy => d0.nov (s.nr y hy), fun y hy => d0.nov (s.nt y hy), s.rt, fun y hy => ?_, s.k, hf⟩
  rcases hE y hy with h | h
  · have := s.e y h
    exact ⟨this.1, d0.nov this.2.1, this.2.2⟩
  · exact ⟨hkn y h.1, h.2, fun hm => h.1 (s.nr y hm), fun hm => h.1 (s.nt y hm)⟩
/-- One more task. -/
theorem Pg.app {P : Program} {wd : World} {K : Value → AHeap → Prop} {v4 : Value} {ss : List St} {xs : List Value} {b4 : List Nat} {xa : Option Addr} {xc bytes : Nat} (s : Pg S b H C q vr vt rs ts br bt E) (d1 : Dr C C1 b) (r1 : RdK S C1 b q') (l2 : AHeap.le C1 C2)
    (w4 : Rw C1 63 8 v4 ss.length xs b4) (n4 : New C b4) (s4 : StL ((C1.off C).no fun y => y ∈ b4) ss xs) (hf : Fl C2 xa [v4]) (hm : ts.length ≤ 1000) (hB : bytes = 24)
    (hK : ∀ v' C' bt', Pg S b H C' q' vr v' rs (ts ++ [ss]) br bt' E → Chg C2 C' bt → K v' C') : appK P wd [.slice none 0 0] 23 bytes vt (.slice xa 1 xc) K C2 := by
  subst hB
  have s1 := s.pick r1 d1
  have s2 := s1.le l2
  obtain ⟨L, hR, hL, hS⟩ := s.t
  have hR2 := (hR.chg (d1.toChg (bs := [b]) (by simp)) (fun y hy hm => by
    simp only [List.mem_cons, List.not_mem_nil, or_false] at hm
    subst hm; exact s.bt_ hy)).trans l2
  refine hR2.app (w4.trans l2) (fun y hy hm => s.k y hm (n4 y hy)) rfl hf (by rw [hL]; simp only [maxLen]; omega) (by rw [hL]; omega) (fun v' C' bt0 hc hn hR' => ?_)
  obtain ⟨bt', hsub, hkn, hR''⟩ := hR'.tight
  have d' := s2.d.chg hc s.nt
  have far : ∀ y, y ∈ bt' → C y ≠ none → y ∈ bt := fun y hy hC => by
    rcases hn y (hsub y hy) with g | g | g
    · exact g
    · exact absurd (n4 y g) hC
    · exact absurd (d1.nov (l2.none g)) hC
  have keep : ∀ y k, C y = some k → ¬ y = b → ¬ y ∈ bt → Kn C' y k := fun y k hk hyb hyt => ((d1.sov hk hyb).trans l2).chg hc hyt
  have old : AHeap.le (C.no (Pd H b br bt E)) (C'.no (Pd H b br bt' E)) := fun y k hy => by
    by_cases hp : Pd H b br bt E y
    · rw [no_in hp] at hy; cases hy
    · rw [no_out hp] at hy
      have hyt : ¬ y ∈ bt := fun h => hp (.inl h)
      have hp' : ¬ Pd H b br bt' E y := by
        rintro (h | h)
        · exact hyt (far y h (by rw [hy]; simp))
        · exact hp (.inr h)
      obtain ⟨k2, h2, r2⟩ := keep y k hy (fun e => hp (.inr (.inr (.inr (.inl e))))) hyt
      exact ⟨k2, by rw [no_out hp']; exact h2, r2⟩
  have new : AHeap.le ((C1.off C).no fun y => y ∈ b4) (C'.no (Pd H b br bt' E)) := fun y k hy => by
    by_cases hm4 : y ∈ b4
    · rw [no_in (B := fun y => y ∈ b4) hm4] at hy; cases hy
    · rw [no_out (B := fun y => y ∈ b4) hm4] at hy
      obtain ⟨g1, g2⟩ := off_some hy
      have hyt : ¬ y ∈ bt := fun h => s.k y h g1
      have hp' : ¬ Pd H b br bt' E y := by
        rintro (h | h | h | h | h)
        · rcases hn y (hsub y h) with g | g | g
          · exact hyt g
          · exact hm4 g
          · exact (Kn.of g2).trans l2 |>.ne g
        · exact s.kr y h g1
        · exact (s.e y h).1 g1
        · subst h; exact s.r.ne g1
        · exact h (s.d.nov g1)
      obtain ⟨k2, h2, r2⟩ := ((Kn.of g2).trans l2).chg hc hyt
      exact ⟨k2, by rw [no_out hp']; exact h2, r2⟩
  refine hK v' C' bt' ⟨s2.r.chg hc s.bt_ s.f d'.le, d', s2.w.chg hc s.rt, ⟨L ++ [xs], hR'', by simp [hL], fun i hi hl => ?_⟩, s.nr, fun y hy => ?_, fun y hy hm' => s.rt y hy (far y hm' (s.kr y hy)), fun y hy => ⟨?_, (s.e y hy).2.1, (s.e y hy).2.2.1, fun hm' => (s.e y hy).2.2.2 (far y hm' (s.e y hy).1)⟩, hkn, s.f⟩ hc
  · by_cases hlt : i < ts.length
    · rw [List.getElem_append_left hlt, List.getElem_append_left (by omega)]
      exact (hS i hlt (by omega)).le old
    · rw [List.getElem_append_right (by omega), List.getElem_append_right (by omega)]
      simp only [List.getElem_singleton]
      exact s4.le new
  · rcases hn y (hsub y hy) with g | g | g
    · exact s.nt y g
    · exact s.d.nov (n4 y g)
    · exact s2.d.nov g
  · intro e
    have h2 := (s2.e y hy).1
    cases hk : C2 y with
    | none => exact h2 hk
    | some k => exact ((Kn.of hk).chg hc (s.e y hy).2.2.2).ne e
/-- Another first task. -/
theorem Pg.put {K : Value → AHeap → Prop} {v4 : Value} {ss : List St} {xs : List Value} {b4 : List Nat} {A : Option Addr} {m c : Nat} (s : Pg S b H C q vr (.slice A m c) rs ts br bt E) (d1 : Dr C C1 b) (r1 : RdK S C1 b q') (l2 : AHeap.le C1 C2)
    (w4 : Rw C2 63 8 v4 ss.length xs b4) (n4 : New C b4) (s4 : StL ((C2.off C).no fun y => y ∈ b4) ss xs) (hm : 0 < ts.length)
    (hK : ∀ C' bt', Pg S b H C' q' vr (.slice A m c) rs (ts.set 0 ss) br bt' E → Chg C2 C' bt → K undef C') : stK 1 (.pointer A) v4 K C2 := by
  have s1 := s.pick r1 d1
  have s2 := s1.le l2
  obtain ⟨L, hR, hL, hS⟩ := s.t
  have hR2 := (hR.chg (d1.toChg (bs := [b]) (by simp)) (fun y hy hm => by
    simp only [List.mem_cons, List.not_mem_nil, or_false] at hm
    subst hm; exact s.bt_ hy)).trans l2
  obtain ⟨b0, c0, rfl⟩ : ∃ b0 c0, A = some ⟨b0, 0, none⟩ := by
    obtain ⟨vs, ob, bss, h1, _⟩ := hR
    obtain ⟨b0, cap, e, _⟩ := h1.open_ (by omega)
    simp only [Value.slice.injEq] at e
    exact ⟨b0, cap, e.1⟩
  refine hR2.st (i := 0) (by omega) w4 (fun y hy hm => s.k y hm (n4 y hy)) (fun C' hc hR' => ?_)
  obtain ⟨bt', hsub, hkn, hR''⟩ := hR'.tight
  have d' := s2.d.chg hc s.nt
  have far : ∀ y, y ∈ bt' → C y ≠ none → y ∈ bt := fun y hy hC => by
    rcases List.mem_append.1 (hsub y hy) with g | g
    · exact g
    · exact absurd (n4 y g) hC
  have keep : ∀ y k, C y = some k → ¬ y = b → ¬ y ∈ bt → Kn C' y k := fun y k hk hyb hyt => ((d1.sov hk hyb).trans l2).chg hc hyt
  have old : AHeap.le (C.no (Pd H b br bt E)) (C'.no (Pd H b br bt' E)) := fun y k hy => by
    by_cases hp : Pd H b br bt E y
    · rw [no_in hp] at hy; cases hy
    · rw [no_out hp] at hy
      have hyt : ¬ y ∈ bt := fun h => hp (.inl h)
      have hp' : ¬ Pd H b br bt' E y := by
        rintro (h | h)
        · exact hyt (far y h (by rw [hy]; simp))
        · exact hp (.inr h)
      obtain ⟨k2, h2, r2⟩ := keep y k hy (fun e => hp (.inr (.inr (.inr (.inl e))))) hyt
      exact ⟨k2, by rw [no_out hp']; exact h2, r2⟩
  have new : AHeap.le ((C2.off C).no fun y => y ∈ b4) (C'.no (Pd H b br bt' E)) := fun y k hy => by
    by_cases hm4 : y ∈ b4
    · rw [no_in (B := fun y => y ∈ b4) hm4] at hy; cases hy
    · rw [no_out (B := fun y => y ∈ b4) hm4] at hy
      obtain ⟨g1, g2⟩ := off_some hy
      have hyt : ¬ y ∈ bt := fun h => s.k y h g1
      have hp' : ¬ Pd H b br bt' E y := by
        rintro (h | h | h | h | h)
        · rcases List.mem_append.1 (hsub y h) with g | g
          · exact hyt g
          · exact hm4 g
        · exact s.kr y h g1
        · exact (s.e y h).1 g1
        · subst h; exact s.r.ne g1
        · exact h (s.d.nov g1)
      obtain ⟨k2, h2, r2⟩ := (Kn.of g2).chg hc hyt
      exact ⟨k2, by rw [no_out hp']; exact h2, r2⟩
  refine hK C' bt' ⟨s2.r.chg hc s.bt_ s.f d'.le, d', s2.w.chg hc s.rt, ⟨L.set 0 xs, hR'', by simp [hL], fun i hi hl => ?_⟩, s.nr, fun y hy => ?_, fun y hy hm' => s.rt y hy (far y hm' (s.kr y hy)), fun y hy => ⟨?_, (s.e y hy).2.1, (s.e y hy).2.2.1, fun hm' => (s.e y hy).2.2.2 (far y hm' (s.e y hy).1)⟩, hkn, s.f⟩ hc
  · simp only [List.length_set] at hi hl
    rw [List.getElem_set, List.getElem_set]
    split
    · exact s4.le new
    · exact (hS i hi hl).le old
  · rcases List.mem_append.1 (hsub y hy) with g | g
    · exact s.nt y g
    · exact s.d.nov (n4 y g)
  · intro e
    have h2 := (s2.e y hy).1
    cases hk : C2 y with
    | none => exact h2 hk
    | some k => exact ((Kn.of hk).chg hc (s.e y hy).2.2.2).ne e
end
end Go.Proofs.Ytjhedgoafkabiaa
