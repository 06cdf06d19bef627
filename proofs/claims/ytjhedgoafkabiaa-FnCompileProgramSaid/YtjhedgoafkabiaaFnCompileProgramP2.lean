/- The statement FnCompileProgram holds for all arguments; part 2 of the texts that show it. No further condition. -/
import Derived.Test.YtjhedgoafkabiaaFnCompileProgramP1
import Derived.ChangeKeysEq
namespace Go.Proofs.Ytjhedgoafkabiaa
set_option linter.all false
open Go Go.RowKit
set_option maxRecDepth 100000
variable (w0 : World)
/-- The value of a statement. -/
abbrev stv (k v b : Int) (e : Ex) (n1 n2 : Nat) (A0 : Option Addr) (c0 : Nat) (A1 : Option Addr) (c1 : Nat) (A2 : Option Addr) (c2 : Nat) : Value :=
  .agg #[.int .i64 k, .int .i64 v, .int .i64 b, .int .i64 e.op, .int .i64 e.n, .slice A0 e.args.length c0, .slice A1 n1 c1, .slice A2 n2 c2]
section
variable (H : AHeap) (K : Value → AHeap → Prop) (s : St) (A0 : Option Addr) (c0 : Nat) (A1 : Option Addr) (c1 : Nat) (A2 : Option Addr) (c2 : Nat)
theorem l11Plain_ok (e : Ex) (h : K (.bool (plainE e)) H) : ACalls Try.prog w0 99 [.agg #[.int .i64 e.op, .int .i64 e.n, .slice A0 e.args.length c0]] H K := by
  have e1 : plainE e = ((e.op == 0) && (e.n == 0) && (((e.args.length : Nat) : Int) == 0)) := by
    have : e.args.isEmpty = (((e.args.length : Nat) : Int) == 0) := by
      cases e.args with
      | nil => rfl
      | cons x xs => simp <;> omega
    simp only [plainE, this]
  rw [e1] at h
  refine acalls_of_sx mix Try.func99 of99 (by simp [ir99]) ?_; rw [ir99]; (try delta qT qI qC qO qM qG)
  repeat' (first | simp -implicitDefEqProofs only [zG1,zG2,zG3,zG4,zG5,zG6,zG7,eq_self,resV,rval,X.val,binv,fillL,setR,↓reduceIte,Nat.reduceEqDiff,Nat.reduceAdd,Nat.reduceMul,Nat.reduceLeDiff,Nat.reduceLT,Nat.reduceSub,reduceCtorEq,zGr] | ((with_reducible refine rows_intro (fun _ hb => ?_)); try simp only [set_none, ne_eq] at hb) | ((with_reducible refine new_intro (fun _ hb => ?_)); try simp only [set_none, ne_eq] at hb) | (with_reducible refine draw_same ?_) | ((with_reducible refine gd_split ?_ (fun _ => ?_) (fun _ => ?_)); exact rfl) | ((with_reducible refine td_split ?_ (fun _ => ?_) (fun _ => ?_)); exact rfl) | (with_reducible refine c_split (fun _ => ?_) (fun _ => ?_)))
  all_goals exact ⟨H, (by simp -implicitDefEqProofs only [le_set_true, le_refl_true, eq_self, *]), by simp_all⟩
theorem l11Var_ok (n1 n2 : Nat) (k v b : Int) (e : Ex) (u : Bool) (h : K (.bool (if u then decide (0 ≤ v) && decide (v ≤ 3) else v == 0)) H) : ACalls Try.prog w0 89 [stv k v b e n1 n2 A0 c0 A1 c1 A2 c2, .bool u] H K := by
  cases u
  all_goals
    refine acalls_of_sx mix Try.func89 of89 (by simp [ir89]) ?_; rw [ir89]; (try delta qT qI qC qO qM qG)
    repeat' (first | simp -implicitDefEqProofs only [zG1,zG2,zG3,zG4,zG5,zG6,zG7,eq_self,resV,rval,X.val,binv,fillL,setR,↓reduceIte,Nat.reduceEqDiff,Nat.reduceAdd,Nat.reduceMul,Nat.reduceLeDiff,Nat.reduceLT,Nat.reduceSub,reduceCtorEq,zGr] | ((with_reducible refine rows_intro (fun _ hb => ?_)); try simp only [set_none, ne_eq] at hb) | ((with_reducible refine new_intro (fun _ hb => ?_)); try simp only [set_none, ne_eq] at hb) | (with_reducible refine draw_same ?_) | ((with_reducible refine gd_split ?_ (fun _ => ?_) (fun _ => ?_)); exact rfl) | ((with_reducible refine td_split ?_ (fun _ => ?_) (fun _ => ?_)); exact rfl) | (with_reducible refine c_split (fun _ => ?_) (fun _ => ?_)) | (with_reducible refine l6In_ok _ _ _ _ _ _ ?_))
    all_goals exact ⟨H, (by simp -implicitDefEqProofs only [le_set_true, le_refl_true, eq_self, *]), by simpa using h⟩
theorem l11Box_ok (n1 n2 : Nat) (k v b : Int) (e : Ex) (u : Bool) (h : K (.bool (if u then decide (0 ≤ b) && decide (b ≤ 2) else b == 0)) H) : ACalls Try.prog w0 90 [stv k v b e n1 n2 A0 c0 A1 c1 A2 c2, .bool u] H K := by
  cases u
  all_goals
    refine acalls_of_sx mix Try.func90 of90 (by simp [ir90]) ?_; rw [ir90]; (try delta qT qI qC qO qM qG)
    repeat' (first | simp -implicitDefEqProofs only [zG1,zG2,zG3,zG4,zG5,zG6,zG7,eq_self,resV,rval,X.val,binv,fillL,setR,↓reduceIte,Nat.reduceEqDiff,Nat.reduceAdd,Nat.reduceMul,Nat.reduceLeDiff,Nat.reduceLT,Nat.reduceSub,reduceCtorEq,zGr] | ((with_reducible refine rows_intro (fun _ hb => ?_)); try simp only [set_none, ne_eq] at hb) | ((with_reducible refine new_intro (fun _ hb => ?_)); try simp only [set_none, ne_eq] at hb) | (with_reducible refine draw_same ?_) | ((with_reducible refine gd_split ?_ (fun _ => ?_) (fun _ => ?_)); exact rfl) | ((with_reducible refine td_split ?_ (fun _ => ?_) (fun _ => ?_)); exact rfl) | (with_reducible refine c_split (fun _ => ?_) (fun _ => ?_)) | (with_reducible refine l6In_ok _ _ _ _ _ _ ?_))
    all_goals exact ⟨H, (by simp -implicitDefEqProofs only [le_set_true, le_refl_true, eq_self, *]), by simpa using h⟩
end
theorem emp (α : Type) (l : List α) : decide (((l.length : Nat) : Int) > 0) = !l.isEmpty := by
  cases l with
  | nil => rfl
  | cons x xs => simp <;> omega
theorem l11Simple_ok (s : St) (A0 : Option Addr) (c0 : Nat) (A1 : Option Addr) (c1 : Nat) (A2 : Option Addr) (c2 : Nat) (H : AHeap) (K : Value → AHeap → Prop) (hv : ExV H s.e [.int .i64 s.e.op, .int .i64 s.e.n, .slice A0 s.e.args.length c0]) (h : K (.bool (stSimple s)) H) :
    ACalls Try.prog w0 88 [stv s.kind s.var s.box s.e s.body.length s.els.length A0 c0 A1 c1 A2 c2] H K := by
  have e1 := emp St s.body
  have e2 := emp St s.els
  refine acalls_of_sx mix Try.func88 of88 (by simp [ir88]) ?_; rw [ir88]; (try delta qT qI qC qO qM qG)
  repeat' (first | simp -implicitDefEqProofs only [zG1,zG2,zG3,zG4,zG5,zG6,zG7,eq_self,resV,rval,X.val,binv,fillL,setR,↓reduceIte,Nat.reduceEqDiff,Nat.reduceAdd,Nat.reduceMul,Nat.reduceLeDiff,Nat.reduceLT,Nat.reduceSub,reduceCtorEq,zGr, e1, e2] | ((with_reducible refine rows_intro (fun _ hb => ?_)); try simp only [set_none, ne_eq] at hb) | ((with_reducible refine new_intro (fun _ hb => ?_)); try simp only [set_none, ne_eq] at hb) | (with_reducible refine draw_same ?_) | ((with_reducible refine gd_split ?_ (fun _ => ?_) (fun _ => ?_)); exact rfl) | ((with_reducible refine td_split ?_ (fun _ => ?_) (fun _ => ?_)); exact rfl) | (with_reducible refine c_split (fun _ => ?_) (fun _ => ?_)) | (with_reducible refine l11Var_ok _ _ _ _ _ _ _ _ _ _ _ _ _ _ _ _ ?_) | (with_reducible refine l11Box_ok _ _ _ _ _ _ _ _ _ _ _ _ _ _ _ _ ?_) | (with_reducible refine l11Plain_ok _ _ _ _ _ _ ?_) | (with_reducible refine exprValid5S_ok _ _ _ s.e A0 c0 (hv.le ((AHeap.le.refl H).fresh ‹_› _)) ?_))
  all_goals refine ⟨H, (by simp -implicitDefEqProofs only [le_set_true, le_refl_true, eq_self, *]), kb h ?_⟩
  all_goals clear h hv e1 e2
  all_goals (try simp only [beq_iff_eq, beq_eq_false_iff_ne, bne_iff_ne, bne_eq_false_iff_eq, decide_eq_true_eq, decide_eq_false_iff_not, ne_eq, Bool.not_eq_true, Bool.not_eq_false, Bool.not_eq_eq_eq_not, Bool.not_true, Bool.not_false, Int.not_lt, Int.not_le, ge_iff_le, gt_iff_lt] at *)
  all_goals (simp only [stSimple]; grind)
abbrev OkP (d : Nat) : Prop := ∀ (s : St) (A0 : Option Addr) (c0 : Nat) (A1 : Option Addr) (c1 : Nat) (A2 : Option Addr) (c2 : Nat) (H : AHeap) (K : Value → AHeap → Prop), s.cnt ≤ 1099511627776 →
  StV H s (stc s.kind s.var s.box s.e s.body.length s.els.length A0 c0 A1 c1 A2 c2) → K (.bool (stOk d s)) H → ACalls Try.prog w0 76 [stv s.kind s.var s.box s.e s.body.length s.els.length A0 c0 A1 c1 A2 c2, .int .i64 d] H K
abbrev BlP (d : Nat) : Prop := ∀ (ss : List St) (A : Option Addr) (c : Nat) (H : AHeap) (K : Value → AHeap → Prop), cntL ss ≤ 1099511627776 →
  StR H ss A 0 → K (.bool (ss.all (stOk d))) H → ACalls Try.prog w0 54 [.slice A ss.length c, .int .i64 d] H K
theorem blP_of (d : Nat) (ih : OkP w0 d) : BlP w0 d := by
  intro ss A c H K hc hR h
  have hl := cntL_len ss
  refine acalls_of_sx mix Try.func54 of54 (by simp [ir54]) ?_; rw [ir54]; (try delta qT qI qC qO qM qG)
  repeat' (first | simp -implicitDefEqProofs only [zG1,zG2,zG3,zG4,zG5,zG6,zG7,eq_self,resV,rval,X.val,binv,fillL,setR,↓reduceIte,Nat.reduceEqDiff,Nat.reduceAdd,Nat.reduceMul,Nat.reduceLeDiff,Nat.reduceLT,Nat.reduceSub,reduceCtorEq,zGr] | ((with_reducible refine rows_intro (fun _ hb => ?_)); try simp only [set_none, ne_eq] at hb) | ((with_reducible refine new_intro (fun _ hb => ?_)); try simp only [set_none, ne_eq] at hb) | (with_reducible refine draw_same ?_) | ((with_reducible refine gd_split ?_ (fun _ => ?_) (fun _ => ?_)); exact rfl) | ((with_reducible refine td_split ?_ (fun _ => ?_) (fun _ => ?_)); exact rfl) | (with_reducible refine c_split (fun _ => ?_) (fun _ => ?_)))
  refine for_rule ss.length (fun k fr C => C = H ∧ (∀ i (hi : i < ss.length), i < k → stOk d ss[i] = true) ∧ fr 0 = .slice A ss.length c ∧ fr 1 = .int .i64 d ∧ fr 5 = .int .i64 k)
    ⟨rfl, fun i hi hk => by omega, rfl, rfl, rfl⟩ ?_ ?_
  · rintro k fr _ hk ⟨rfl, he, f0, f1, f5⟩ N hN
    have g0 := lt_dec hk
    have g1 := rng hk
    have g2 := up1 hk (by omega)
    obtain ⟨gA, a0, d0, a1, d1, a2, d2, gp, hx⟩ := hR.arg hk
    have hct := cntL_at hk
    repeat' (first | simp -implicitDefEqProofs only [zG1,zG2,zG3,zG4,zG5,zG6,zG7,eq_self,resV,rval,X.val,binv,fillL,setR,↓reduceIte,Nat.reduceEqDiff,Nat.reduceAdd,Nat.reduceMul,Nat.reduceLeDiff,Nat.reduceLT,Nat.reduceSub,reduceCtorEq,zGr, f0, f1, f5, g0, g1, g2, gA, gp, Nat.add_zero] | ((with_reducible refine rows_intro (fun _ hb => ?_)); try simp only [set_none, ne_eq] at hb) | ((with_reducible refine new_intro (fun _ hb => ?_)); try simp only [set_none, ne_eq] at hb) | (with_reducible refine draw_same ?_) | ((with_reducible refine gd_split ?_ (fun _ => ?_) (fun _ => ?_)); exact rfl) | ((with_reducible refine td_split ?_ (fun _ => ?_) (fun _ => ?_)); exact rfl) | (with_reducible refine c_split (fun _ => ?_) (fun _ => ?_)) | (with_reducible refine ih ss[k] a0 d0 a1 d1 a2 d2 _ _ (by omega) hx ?_))
    · refine ret_same (kb h ?_)
      (try simp only [beq_iff_eq, beq_eq_false_iff_ne, bne_iff_ne, bne_eq_false_iff_eq, decide_eq_true_eq, decide_eq_false_iff_not, ne_eq, Bool.not_eq_true, Bool.not_eq_false, Bool.not_eq_eq_eq_not, Bool.not_true, Bool.not_false, Int.not_lt, Int.not_le, ge_iff_le, gt_iff_lt] at *)
      rw [eq_comm, List.all_eq_false]
      exact ⟨_, List.getElem_mem hk, by simp [*]⟩
    · (try simp only [beq_iff_eq, beq_eq_false_iff_ne, bne_iff_ne, bne_eq_false_iff_eq, decide_eq_true_eq, decide_eq_false_iff_not, ne_eq, Bool.not_eq_true, Bool.not_eq_false, Bool.not_eq_eq_eq_not, Bool.not_true, Bool.not_false, Int.not_lt, Int.not_le, ge_iff_le, gt_iff_lt] at *)
      refine hN _ _ _ (.refl _) ⟨rfl, fun i hi hik => ?_, (by first | rfl | (simp only [put_at, ↓reduceIte, Nat.reduceEqDiff]; first | done | rfl | assumption) | simp [put_at, *]), (by first | rfl | (simp only [put_at, ↓reduceIte, Nat.reduceEqDiff]; first | done | rfl | assumption) | simp [put_at, *]), (by first | rfl | (simp only [put_at, ↓reduceIte, Nat.reduceEqDiff]; first | done | rfl | assumption) | simp [put_at, *])⟩
      rcases Nat.lt_succ_iff_lt_or_eq.1 hik with hik | rfl
      · exact he i hi hik
      · assumption
  · rintro fr _ ⟨rfl, he, f0, f1, f5⟩ N
    have g0 : decide ((ss.length : Int) < (ss.length : Int)) = false := by simp
    repeat' (first | simp -implicitDefEqProofs only [zG1,zG2,zG3,zG4,zG5,zG6,zG7,eq_self,resV,rval,X.val,binv,fillL,setR,↓reduceIte,Nat.reduceEqDiff,Nat.reduceAdd,Nat.reduceMul,Nat.reduceLeDiff,Nat.reduceLT,Nat.reduceSub,reduceCtorEq,zGr, f0, f1, f5, g0] | ((with_reducible refine rows_intro (fun _ hb => ?_)); try simp only [set_none, ne_eq] at hb) | ((with_reducible refine new_intro (fun _ hb => ?_)); try simp only [set_none, ne_eq] at hb) | (with_reducible refine draw_same ?_) | ((with_reducible refine gd_split ?_ (fun _ => ?_) (fun _ => ?_)); exact rfl) | ((with_reducible refine td_split ?_ (fun _ => ?_) (fun _ => ?_)); exact rfl) | (with_reducible refine c_split (fun _ => ?_) (fun _ => ?_)))
    refine ret_same (kb h ?_)
    rw [eq_comm, List.all_eq_true]
    intro x hx
    obtain ⟨i, hi, rfl⟩ := List.getElem_of_mem hx
    exact he i hi hi
theorem okP_zero : OkP w0 0 := by
  intro s A0 c0 A1 c1 A2 c2 H K hc hv h
  obtain ⟨hE, ⟨hb1, hb2⟩, hl1, hl2⟩ := hv.parts
  have g1 : decide (((0 : Nat) : Int) < 1) = true := by decide
  refine acalls_of_sx mix Try.func76 of76 (by simp [ir76]) ?_; rw [ir76]; (try delta qT qI qC qO qM qG)
  repeat' (first | simp -implicitDefEqProofs only [zG1,zG2,zG3,zG4,zG5,zG6,zG7,eq_self,resV,rval,X.val,binv,fillL,setR,↓reduceIte,Nat.reduceEqDiff,Nat.reduceAdd,Nat.reduceMul,Nat.reduceLeDiff,Nat.reduceLT,Nat.reduceSub,reduceCtorEq,zGr, g1] | ((with_reducible refine rows_intro (fun _ hb => ?_)); try simp only [set_none, ne_eq] at hb) | ((with_reducible refine new_intro (fun _ hb => ?_)); try simp only [set_none, ne_eq] at hb) | (with_reducible refine draw_same ?_) | ((with_reducible refine gd_split ?_ (fun _ => ?_) (fun _ => ?_)); exact rfl) | ((with_reducible refine td_split ?_ (fun _ => ?_) (fun _ => ?_)); exact rfl) | (with_reducible refine c_split (fun _ => ?_) (fun _ => ?_)) | (with_reducible refine l11Simple_ok _ s A0 c0 A1 c1 A2 c2 _ _ (hE.le ((AHeap.le.refl H).fresh ‹_› _)) ?_))
  all_goals refine ⟨H, (by simp -implicitDefEqProofs only [le_set_true, le_refl_true, eq_self, *]), kb h ?_⟩
  all_goals (try simp only [beq_iff_eq, beq_eq_false_iff_ne, bne_iff_ne, bne_eq_false_iff_eq, decide_eq_true_eq, decide_eq_false_iff_not, ne_eq, Bool.not_eq_true, Bool.not_eq_false, Bool.not_eq_eq_eq_not, Bool.not_true, Bool.not_false, Int.not_lt, Int.not_le, ge_iff_le, gt_iff_lt] at *)
  all_goals (simp only [stOk]; grind)
theorem okP_succ (d : Nat) (hd : d ≤ 1000) (ih : BlP w0 d) : OkP w0 (d + 1) := by
  intro s A0 c0 A1 c1 A2 c2 H K hc hv h
  obtain ⟨hE, ⟨hb1, hb2⟩, hl1, hl2⟩ := hv.parts
  have hcs := s.cnt_eq
  have g1 : decide (((d + 1 : Nat) : Int) < 1) = false := by simp <;> omega
  have g2 : IntKind.i64.wrap (((d + 1 : Nat) : Int) - 1) = (d : Int) := by rw [wrap_i64 (by omega) (by omega)]; omega
  have e2 := emp St s.els
  refine acalls_of_sx mix Try.func76 of76 (by simp [ir76]) ?_; rw [ir76]; (try delta qT qI qC qO qM qG)
  repeat' (first | simp -implicitDefEqProofs only [zG1,zG2,zG3,zG4,zG5,zG6,zG7,eq_self,resV,rval,X.val,binv,fillL,setR,↓reduceIte,Nat.reduceEqDiff,Nat.reduceAdd,Nat.reduceMul,Nat.reduceLeDiff,Nat.reduceLT,Nat.reduceSub,reduceCtorEq,zGr, g1, g2, e2] | ((with_reducible refine rows_intro (fun _ hb => ?_)); try simp only [set_none, ne_eq] at hb) | ((with_reducible refine new_intro (fun _ hb => ?_)); try simp only [set_none, ne_eq] at hb) | (with_reducible refine draw_same ?_) | ((with_reducible refine gd_split ?_ (fun _ => ?_) (fun _ => ?_)); exact rfl) | ((with_reducible refine td_split ?_ (fun _ => ?_) (fun _ => ?_)); exact rfl) | (with_reducible refine c_split (fun _ => ?_) (fun _ => ?_)) | (with_reducible refine l11Simple_ok _ s A0 c0 A1 c1 A2 c2 _ _ (hE.le ((AHeap.le.refl H).fresh ‹_› _)) ?_) | (with_reducible refine l11Var_ok _ _ _ _ _ _ _ _ _ _ _ _ _ _ _ _ ?_) | (with_reducible refine l11Box_ok _ _ _ _ _ _ _ _ _ _ _ _ _ _ _ _ ?_) | (with_reducible refine exprValid5S_ok _ _ _ s.e A0 c0 (hE.le ((AHeap.le.refl H).fresh ‹_› _)) ?_) |
    (with_reducible refine ih s.body A1 c1 _ _ (by omega) (hb2.le ((AHeap.le.refl H).fresh ‹_› _)) ?_) | (with_reducible refine ih s.els A2 c2 _ _ (by omega) (hl2.le ((AHeap.le.refl H).fresh ‹_› _)) ?_))
  all_goals refine ⟨H, (by simp -implicitDefEqProofs only [le_set_true, le_refl_true, eq_self, *]), kb h ?_⟩
  all_goals clear h hv hE hb2 hl2 ih
  all_goals (try simp only [beq_iff_eq, beq_eq_false_iff_ne, bne_iff_ne, bne_eq_false_iff_eq, decide_eq_true_eq, decide_eq_false_iff_not, ne_eq, Bool.not_eq_true, Bool.not_eq_false, Bool.not_eq_eq_eq_not, Bool.not_true, Bool.not_false, Int.not_lt, Int.not_le, ge_iff_le, gt_iff_lt] at *)
  all_goals (simp only [stOk, stBlock]; grind)
theorem okP : ∀ d, d ≤ 1000 → OkP w0 d
  | 0, _ => okP_zero w0
  | d + 1, h => okP_succ w0 d (by omega) (blP_of w0 d (okP d (by omega)))
theorem l11Blocks_ok (d : Nat) (hd : d ≤ 1000) : BlP w0 d := blP_of w0 d (okP w0 d hd)
theorem l11Blocks3_ok (ss : List St) (A : Option Addr) (c : Nat) (H : AHeap) (K : Value → AHeap → Prop) (hc : cntL ss ≤ 1099511627776) (hR : StR H ss A 0) (h : K (.bool (ss.all (stOk 3))) H) :
    ACalls Try.prog w0 54 [.slice A ss.length c, .int .i64 3] H K := l11Blocks_ok w0 3 (by decide) ss A c H K hc hR h
abbrev CtP (ss : List St) : Prop := ∀ (A : Option Addr) (c : Nat) (H : AHeap) (K : Value → AHeap → Prop), cntL ss ≤ 1099511627776 →
  StR H ss A 0 → K (.int .i64 (cntL ss)) H → ACalls Try.prog w0 55 [.slice A ss.length c] H K
theorem ctP_of (ss : List St) (ih : ∀ s ∈ ss, CtP w0 s.body ∧ CtP w0 s.els) : CtP w0 ss := by
  intro A c H K hc hR h
  have hl := cntL_len ss
  refine acalls_of_sx mix Try.func55 of55 (by simp [ir55]) ?_; rw [ir55]; (try delta qT qI qC qO qM qG)
  repeat' (first | simp -implicitDefEqProofs only [zG1,zG2,zG3,zG4,zG5,zG6,zG7,eq_self,resV,rval,X.val,binv,fillL,setR,↓reduceIte,Nat.reduceEqDiff,Nat.reduceAdd,Nat.reduceMul,Nat.reduceLeDiff,Nat.reduceLT,Nat.reduceSub,reduceCtorEq,zGr] | ((with_reducible refine rows_intro (fun _ hb => ?_)); try simp only [set_none, ne_eq] at hb) | ((with_reducible refine new_intro (fun _ hb => ?_)); try simp only [set_none, ne_eq] at hb) | (with_reducible refine draw_same ?_) | ((with_reducible refine gd_split ?_ (fun _ => ?_) (fun _ => ?_)); exact rfl) | ((with_reducible refine td_split ?_ (fun _ => ?_) (fun _ => ?_)); exact rfl) | (with_reducible refine c_split (fun _ => ?_) (fun _ => ?_)))
  refine for_rule ss.length (fun k fr C => C = H ∧ fr 0 = .slice A ss.length c ∧ fr 3 = .int .i64 (cntL (ss.take k)) ∧ fr 4 = .int .i64 k)
    ⟨rfl, rfl, by simp [cntL, put_at], rfl⟩ ?_ ?_
  · rintro k fr _ hk ⟨rfl, f0, f3, f4⟩ N hN
    have g0 := lt_dec hk
    have g1 := rng hk
    have g2 := up1 hk (by omega)
    obtain ⟨gA, a0, d0, a1, d1, a2, d2, gp, hx⟩ := hR.arg hk
    obtain ⟨_, ⟨_, hb⟩, _, hl⟩ := hx.parts
    have hct := cntL_at hk
    have hcs := ss[k].cnt_eq
    have hst := cntL_take hk
    have hle := cntL_le (ss := ss) (k + 1)
    obtain ⟨ih1, ih2⟩ := ih ss[k] (List.getElem_mem hk)
    have w1 : IntKind.i64.wrap ((cntL (ss.take k) : Int) + 1) = (cntL (ss.take k) : Int) + 1 := wrap_i64 (by omega) (by omega)
    have w2 : IntKind.i64.wrap ((cntL (ss.take k) : Int) + 1 + (cntL ss[k].body : Int)) = (cntL (ss.take k) : Int) + 1 + (cntL ss[k].body : Int) := wrap_i64 (by omega) (by omega)
    have w3 : IntKind.i64.wrap ((cntL (ss.take k) : Int) + 1 + (cntL ss[k].body : Int) + (cntL ss[k].els : Int)) = (cntL (ss.take (k + 1)) : Int) := by rw [wrap_i64 (by omega) (by omega)]; omega
    repeat' (first | simp -implicitDefEqProofs only [zG1,zG2,zG3,zG4,zG5,zG6,zG7,eq_self,resV,rval,X.val,binv,fillL,setR,↓reduceIte,Nat.reduceEqDiff,Nat.reduceAdd,Nat.reduceMul,Nat.reduceLeDiff,Nat.reduceLT,Nat.reduceSub,reduceCtorEq,zGr, f0, f3, f4, g0, g1, g2, w1, w2, w3, gA, gp, Nat.add_zero] | ((with_reducible refine rows_intro (fun _ hb => ?_)); try simp only [set_none, ne_eq] at hb) | ((with_reducible refine new_intro (fun _ hb => ?_)); try simp only [set_none, ne_eq] at hb) | (with_reducible refine draw_same ?_) | ((with_reducible refine gd_split ?_ (fun _ => ?_) (fun _ => ?_)); exact rfl) | ((with_reducible refine td_split ?_ (fun _ => ?_) (fun _ => ?_)); exact rfl) | (with_reducible refine c_split (fun _ => ?_) (fun _ => ?_)) | (with_reducible refine ih1 a1 d1 _ _ (by omega) hb ?_) | (with_reducible refine ih2 a2 d2 _ _ (by omega) hl ?_))
    all_goals exact hN _ _ _ (.refl _) ⟨rfl, (by first | rfl | (simp only [put_at, ↓reduceIte, Nat.reduceEqDiff]; first | done | rfl | assumption) | simp [put_at, *]), (by first | rfl | (simp only [put_at, ↓reduceIte, Nat.reduceEqDiff]; first | done | rfl | assumption) | simp [put_at, *]), (by first | rfl | (simp only [put_at, ↓reduceIte, Nat.reduceEqDiff]; first | done | rfl | assumption) | simp [put_at, *])⟩
  · rintro fr _ ⟨rfl, f0, f3, f4⟩ N
    have g0 : decide ((ss.length : Int) < (ss.length : Int)) = false := by simp
    rw [List.take_length] at f3
    repeat' (first | simp -implicitDefEqProofs only [zG1,zG2,zG3,zG4,zG5,zG6,zG7,eq_self,resV,rval,X.val,binv,fillL,setR,↓reduceIte,Nat.reduceEqDiff,Nat.reduceAdd,Nat.reduceMul,Nat.reduceLeDiff,Nat.reduceLT,Nat.reduceSub,reduceCtorEq,zGr, f0, f3, f4, g0] | ((with_reducible refine rows_intro (fun _ hb => ?_)); try simp only [set_none, ne_eq] at hb) | ((with_reducible refine new_intro (fun _ hb => ?_)); try simp only [set_none, ne_eq] at hb) | (with_reducible refine draw_same ?_) | ((with_reducible refine gd_split ?_ (fun _ => ?_) (fun _ => ?_)); exact rfl) | ((with_reducible refine td_split ?_ (fun _ => ?_) (fun _ => ?_)); exact rfl) | (with_reducible refine c_split (fun _ => ?_) (fun _ => ?_)))
    exact ret_same h
mutual
theorem ctS_ok : ∀ s : St, CtP w0 s.body ∧ CtP w0 s.els
  | .mk k v b e body els => ⟨ctP_of w0 body (ctL_ok body), ctP_of w0 els (ctL_ok els)⟩
theorem ctL_ok : ∀ ss : List St, ∀ s ∈ ss, CtP w0 s.body ∧ CtP w0 s.els
  | [], s, h => by cases h
  | x :: xs, s, h => by
    rcases List.mem_cons.1 h with h | h
    · rw [h]; exact ctS_ok x
    · exact ctL_ok xs s h
end
theorem l11Count_ok (ss : List St) : CtP w0 ss := ctP_of w0 ss (ctL_ok w0 ss)
theorem stmtsValidS_ok (ss : List St) (A : Option Addr) (c : Nat) (H : AHeap) (K : Value → AHeap → Prop) (hc : cntL ss ≤ 1099511627776) (hR : StR H ss A 0) (h : K (.bool (stsOk ss)) H) :
    ACalls Try.prog w0 36 [.slice A ss.length c] H K := by
  refine acalls_of_sx mix Try.func36 of36 (by simp [ir36]) ?_; rw [ir36]; (try delta qT qI qC qO qM qG)
  repeat' (first | simp -implicitDefEqProofs only [zG1,zG2,zG3,zG4,zG5,zG6,zG7,eq_self,resV,rval,X.val,binv,fillL,setR,↓reduceIte,Nat.reduceEqDiff,Nat.reduceAdd,Nat.reduceMul,Nat.reduceLeDiff,Nat.reduceLT,Nat.reduceSub,reduceCtorEq,zGr] | ((with_reducible refine rows_intro (fun _ hb => ?_)); try simp only [set_none, ne_eq] at hb) | ((with_reducible refine new_intro (fun _ hb => ?_)); try simp only [set_none, ne_eq] at hb) | (with_reducible refine draw_same ?_) | ((with_reducible refine gd_split ?_ (fun _ => ?_) (fun _ => ?_)); exact rfl) | ((with_reducible refine td_split ?_ (fun _ => ?_) (fun _ => ?_)); exact rfl) | (with_reducible refine c_split (fun _ => ?_) (fun _ => ?_)) | (with_reducible refine l11Blocks3_ok _ ss A c _ _ hc hR ?_) | (with_reducible refine l11Count_ok _ ss A c _ _ hc hR ?_))
  all_goals refine ret_same (kb h ?_)
  all_goals (try simp only [beq_iff_eq, beq_eq_false_iff_ne, bne_iff_ne, bne_eq_false_iff_eq, decide_eq_true_eq, decide_eq_false_iff_not, ne_eq, Bool.not_eq_true, Bool.not_eq_false, Bool.not_eq_eq_eq_not, Bool.not_true, Bool.not_false, Int.not_lt, Int.not_le, ge_iff_le, gt_iff_lt] at *)
  all_goals (simp only [stsOk]; grind)
end Go.Proofs.Ytjhedgoafkabiaa
namespace Go.Proofs.Ytjhedgoafkabiaa
set_option linter.all false
open Go Go.RowKit
set_option maxRecDepth 100000
variable (w0 : World)
def pB : Nat → Nat
  | 0 => 64
  | d + 1 => 4 * pB d + 64
def cB : Nat → Nat
  | 0 => 1
  | d + 1 => 4 * cB d + 3
theorem pB_ge : ∀ d, 64 ≤ pB d
  | 0 => Nat.le_refl _
  | d + 1 => by simp only [pB]; omega
theorem cB_ge : ∀ d, 1 ≤ cB d
  | 0 => Nat.le_refl _
  | d + 1 => by simp only [cB]; omega
theorem cB_le {d : Nat} (h : d ≤ 3) : cB d ≤ 200 := by
  have e0 : cB 0 = 1 := rfl
  have e1 : cB 1 = 7 := rfl
  have e2 : cB 2 = 31 := rfl
  have e3 : cB 3 = 127 := rfl
  match d, h with
  | 0, _ | 1, _ | 2, _ | 3, _ => omega
/-- The cells of a statement before anything is set. -/
abbrev z8 : List Value := [.int .i64 0, .int .i64 0, .int .i64 0, .int .i64 0, .int .i64 0, .slice none 0 0, .slice none 0 0, .slice none 0 0]
abbrev Pt8 (C : AHeap) (x : Nat) (v0 v1 v2 v3 v4 v5 v6 v7 : Value) : Prop :=
  C.cell (some ⟨x, 0, none⟩) = some v0 ∧ C.cell (some ⟨x, 1, none⟩) = some v1 ∧ C.cell (some ⟨x, 2, none⟩) = some v2 ∧ C.cell (some ⟨x, 3, none⟩) = some v3 ∧ C.cell (some ⟨x, 4, none⟩) = some v4 ∧ C.cell (some ⟨x, 5, none⟩) = some v5 ∧ C.cell (some ⟨x, 6, none⟩) = some v6 ∧ C.cell (some ⟨x, 7, none⟩) = some v7
theorem finS {S : Src} {H C : AHeap} {b x : Nat} {p q : Int} {t : TypeId} {cc : Nat} {K D : Value → AHeap → Prop} {zs : List Value} (k v bx : Int) (e : Ex) (n1 n2 : Nat) (A0 : Option Addr) (c0 : Nat) (A1 : Option Addr) (c1 : Nat) (A2 : Option Addr) (c2 : Nat)
    (hz : zs.length = 8) (hx : H x = none) (hk : Kn C x ⟨zs, true, t, cc⟩) (hr0 : RdK S H b p) (hrc : RdK S C b q) (hd : Dr H C b) (hK : ∀ C', Chg C C' [x] → RdK S C' b q → Dr H C' b → K (stv k v bx e n1 n2 A0 c0 A1 c1 A2 c2) C')
    (hD : ∀ C', Chg C C' [x] → Pt8 C' x (.int .i64 k) (.int .i64 v) (.int .i64 bx) (.int .i64 e.op) (.int .i64 e.n) (.slice A0 e.args.length c0) (.slice A1 n1 c1) (.slice A2 n2 c2) → K (stv k v bx e n1 n2 A0 c0 A1 c1 A2 c2) C' → D undef C') :
    stK 8 (.pointer (some ⟨x, 0, none⟩)) (stv k v bx e n1 n2 A0 c0 A1 c1 A2 c2) D C := by
  match zs, hz with
  | [z0, z1, z2, z3, z4, z5, z6, z7], _ =>
    refine st_kn8 hk (by simp [ocI, ocS]) (fun C' hc k cs => ?_)
    have hbx : ¬ b ∈ [x] := by
      simp only [List.mem_cons, List.not_mem_nil, or_false]
      rintro rfl; exact hr0.ne hx
    have d' := hd.chg hc (New.one hx)
    exact hD C' hc cs (hK C' hc (hrc.chg hc hbx hr0.fl d'.le) d')
theorem nat3 {v : Int} (h0 : 0 ≤ v) : ∃ j : Nat, v = j := ⟨v.toNat, by omega⟩
theorem one_add {j : Nat} (h : j ≤ 1000) : IntKind.i64.wrap (1 + (j : Int)) = ((1 + j : Nat) : Int) := by rw [wrap_i64 (by omega) (by omega)]; omega
theorem stv_simple (H : AHeap) (k v bx : Int) {e : Ex} {A0 : Option Addr} {c0 : Nat} (hE : ExV H e [.int .i64 e.op, .int .i64 e.n, .slice A0 e.args.length c0]) : StV H (.mk k v bx e [] []) (stc k v bx e 0 0 A0 c0 none 0 none 0) := by
  obtain ⟨B0, d0, he, h1, h2⟩ := hE.open_
  simp only [List.cons.injEq, Value.slice.injEq, true_and, and_true] at he
  obtain ⟨rfl, rfl⟩ := he
  simp only [StV]
  exact ⟨_, _, _, _, _, _, rfl, h1, h2, ⟨Nat.zero_le _, by simp only [StR]⟩, Nat.zero_le _, by simp only [StR]⟩
def plain0 : Ex := .mk 0 0 []
section
variable {S : Src} {b : Nat} {H : AHeap} {p : Int} (K : Value → AHeap → Prop)
/-- What a draw of one statement owes. -/
abbrev Out1 (S : Src) (b : Nat) (H : AHeap) (p : Int) (d : Nat) (cm pm : Nat) (K : Value → AHeap → Prop) : Prop :=
  ∀ (s : St) (A0 : Option Addr) (c0 : Nat) (A1 : Option Addr) (c1 : Nat) (A2 : Option Addr) (c2 : Nat) (C' : AHeap) (p' : Int), RdK S C' b p' → Dr H C' b → StV (C'.off H) s (stc s.kind s.var s.box s.e s.body.length s.els.length A0 c0 A1 c1 A2 c2) →
    stOk d s = true → s.cnt ≤ cm → p ≤ p' → p' ≤ p + pm → K (stv s.kind s.var s.box s.e s.body.length s.els.length A0 c0 A1 c1 A2 c2) C'
theorem ok_simple {d : Nat} {s : St} (h2 : s.kind ≠ 2) (h3 : s.kind ≠ 3) (h : stSimple s = true) : stOk d s = true := by
  cases d <;> (simp only [stOk]; rw [if_neg (by omega)]; exact h)
theorem l92Set_ok (hr : RdK S H b p) (h0 : 0 ≤ p) (h1 : p ≤ 1099511610000) (d : Nat) (h : Out1 S b H p d 1 47 K) : ACalls Try.prog w0 94 [.pointer (some ⟨b, 0, none⟩)] H K := by
  refine acalls_of_sx mix Try.func94 of94 (by simp [ir94]) ?_; rw [ir94]; (try delta qT qI qC qO qM qG)
  repeat' (first | simp -implicitDefEqProofs only [zG1,zG2,zG3,zG4,zG5,zG6,zG7,eq_self,resV,rval,X.val,binv,fillL,setR,↓reduceIte,Nat.reduceEqDiff,Nat.reduceAdd,Nat.reduceMul,Nat.reduceLeDiff,Nat.reduceLT,Nat.reduceSub,reduceCtorEq,zGq] | ((with_reducible refine rows_intro (fun _ hb => ?_)); try simp only [set_none, ne_eq] at hb) | ((with_reducible refine new_intro (fun _ hb => ?_)); try simp only [set_none, ne_eq] at hb) | (with_reducible refine draw_same ?_) | ((with_reducible refine gd_split ?_ (fun _ => ?_) (fun _ => ?_)); exact rfl) | ((with_reducible refine td_split ?_ (fun _ => ?_) (fun _ => ?_)); exact rfl) | (with_reducible refine c_split (fun _ => ?_) (fun _ => ?_)))
  rename_i x
  have hx := hb
  have hxb : ¬ x = b := by rintro rfl; exact hr.ne hx
  have l1 := (AHeap.le.refl H).fresh hx ⟨z8, true, 63, 8⟩
  refine pickK_ok _ _ (hr.fresh hx _) 3 (by omega) (by omega) (by decide) (fun v C1 r1 d1 hv0 hv1 => ?_)
  have d1' := (hr.dr l1).trans d1
  have k1 := d1.kn (Kn.same H x ⟨z8, true, 63, 8⟩) hxb
  repeat' (first | simp -implicitDefEqProofs only [zG1,zG2,zG3,zG4,zG5,zG6,zG7,eq_self,resV,rval,X.val,binv,fillL,setR,↓reduceIte,Nat.reduceEqDiff,Nat.reduceAdd,Nat.reduceMul,Nat.reduceLeDiff,Nat.reduceLT,Nat.reduceSub,reduceCtorEq,zGq] | ((with_reducible refine rows_intro (fun _ hb => ?_)); try simp only [set_none, ne_eq] at hb) | ((with_reducible refine new_intro (fun _ hb => ?_)); try simp only [set_none, ne_eq] at hb) | (with_reducible refine draw_same ?_) | ((with_reducible refine gd_split ?_ (fun _ => ?_) (fun _ => ?_)); exact rfl) | ((with_reducible refine td_split ?_ (fun _ => ?_) (fun _ => ?_)); exact rfl) | (with_reducible refine c_split (fun _ => ?_) (fun _ => ?_)))
  refine pickK_ok _ _ r1 3 (by omega) (by omega) (by decide) (fun u C2 r2 d2 hu0 hu1 => ?_)
  have d2' := d1'.trans d2
  have k2 := d2.kn k1 hxb
  obtain ⟨j, rfl⟩ := nat3 hu0
  have w1 := one_add (j := j) (by omega)
  have hT : drT (1 + j) ≤ 45 := by
    have : j < 3 := by omega
    match j, this with
    | 0, _ | 1, _ | 2, _ => decide
  repeat' (first | simp -implicitDefEqProofs only [zG1,zG2,zG3,zG4,zG5,zG6,zG7,eq_self,resV,rval,X.val,binv,fillL,setR,↓reduceIte,Nat.reduceEqDiff,Nat.reduceAdd,Nat.reduceMul,Nat.reduceLeDiff,Nat.reduceLT,Nat.reduceSub,reduceCtorEq,zGq, w1] | ((with_reducible refine rows_intro (fun _ hb => ?_)); try simp only [set_none, ne_eq] at hb) | ((with_reducible refine new_intro (fun _ hb => ?_)); try simp only [set_none, ne_eq] at hb) | (with_reducible refine draw_same ?_) | ((with_reducible refine gd_split ?_ (fun _ => ?_) (fun _ => ?_)); exact rfl) | ((with_reducible refine td_split ?_ (fun _ => ?_) (fun _ => ?_)); exact rfl) | (with_reducible refine c_split (fun _ => ?_) (fun _ => ?_)))
  refine l91Expr_ok _ (1 + j) _ _ _ (by omega) r2 (by omega) (by omega) (fun e A c C3 p3 r3 d3 he hE hp0 hp1 => ?_)
  repeat' (first | simp -implicitDefEqProofs only [zG1,zG2,zG3,zG4,zG5,zG6,zG7,eq_self,resV,rval,X.val,binv,fillL,setR,↓reduceIte,Nat.reduceEqDiff,Nat.reduceAdd,Nat.reduceMul,Nat.reduceLeDiff,Nat.reduceLT,Nat.reduceSub,reduceCtorEq,zGq] | ((with_reducible refine rows_intro (fun _ hb => ?_)); try simp only [set_none, ne_eq] at hb) | ((with_reducible refine new_intro (fun _ hb => ?_)); try simp only [set_none, ne_eq] at hb) | (with_reducible refine draw_same ?_) | ((with_reducible refine gd_split ?_ (fun _ => ?_) (fun _ => ?_)); exact rfl) | ((with_reducible refine td_split ?_ (fun _ => ?_) (fun _ => ?_)); exact rfl) | (with_reducible refine c_split (fun _ => ?_) (fun _ => ?_)))
  have he5 : exprOk 5 e = true := ok_up5 (show max (1 + j) 1 ≤ 5 by omega) he
  refine finS (K := K) 1 v 0 e 0 0 A c none 0 none 0 rfl hx (d3.kn k2 hxb) hr r3 (d2'.trans d3) (fun C4 hc r4 d4 => ?_) (fun C4 hc cs hK => ?_)
  · refine h (.mk 1 v 0 e [] []) A c none 0 none 0 C4 p3 r4 d4 (stv_simple _ _ _ _ (hE.le (d2'.off_chg hc (by simpa using k2.ne)))) (ok_simple (by simp [St.kind]) (by simp [St.kind]) ?_) (by simp [St.cnt, cntL]) (by omega) (by omega)
    have : v ≤ 3 := by omega
    simp only [stSimple, St.kind, St.var, St.box, St.e, St.body, St.els, List.isEmpty_nil, Bool.true_and, if_true]
    rw [he5]
    simp [hv0, this]
  · repeat' (first | simp -implicitDefEqProofs only [zG1,zG2,zG3,zG4,zG5,zG6,zG7,eq_self,resV,rval,X.val,binv,fillL,setR,↓reduceIte,Nat.reduceEqDiff,Nat.reduceAdd,Nat.reduceMul,Nat.reduceLeDiff,Nat.reduceLT,Nat.reduceSub,reduceCtorEq,zGq, cs] | ((with_reducible refine rows_intro (fun _ hb => ?_)); try simp only [set_none, ne_eq] at hb) | ((with_reducible refine new_intro (fun _ hb => ?_)); try simp only [set_none, ne_eq] at hb) | (with_reducible refine draw_same ?_) | ((with_reducible refine gd_split ?_ (fun _ => ?_) (fun _ => ?_)); exact rfl) | ((with_reducible refine td_split ?_ (fun _ => ?_) (fun _ => ?_)); exact rfl) | (with_reducible refine c_split (fun _ => ?_) (fun _ => ?_)))
    exact ret_same hK
theorem l92Talk_ok (hr : RdK S H b p) (B : Int) (hB : B ≤ 3) (h0 : 0 ≤ p) (h1 : p ≤ 1099511610000) (d : Nat) (h : Out1 S b H p d 1 49 K) : ACalls Try.prog w0 96 [.pointer (some ⟨b, 0, none⟩), .int .i64 B] H K := by
  by_cases hB1 : B < 1
  · have g1 : decide (B < 1) = true := by simpa using hB1
    refine acalls_of_sx mix Try.func96 of96 (by simp [ir96]) ?_; rw [ir96]; (try delta qT qI qC qO qM qG)
    repeat' (first | simp -implicitDefEqProofs only [zG1,zG2,zG3,zG4,zG5,zG6,zG7,eq_self,resV,rval,X.val,binv,fillL,setR,↓reduceIte,Nat.reduceEqDiff,Nat.reduceAdd,Nat.reduceMul,Nat.reduceLeDiff,Nat.reduceLT,Nat.reduceSub,reduceCtorEq,zGq, g1] | ((with_reducible refine rows_intro (fun _ hb => ?_)); try simp only [set_none, ne_eq] at hb) | ((with_reducible refine new_intro (fun _ hb => ?_)); try simp only [set_none, ne_eq] at hb) | (with_reducible refine draw_same ?_) | ((with_reducible refine gd_split ?_ (fun _ => ?_) (fun _ => ?_)); exact rfl) | ((with_reducible refine td_split ?_ (fun _ => ?_) (fun _ => ?_)); exact rfl) | (with_reducible refine c_split (fun _ => ?_) (fun _ => ?_)))
    rename_i x
    have hx := hb
    have hxb : ¬ x = b := by rintro rfl; exact hr.ne hx
    have l1 := (AHeap.le.refl H).fresh hx ⟨z8, true, 63, 8⟩
    refine l92Set_ok _ _ (hr.fresh hx _) h0 h1 d (fun s A0 c0 A1 c1 A2 c2 C1 p1 r1 d1 hs ho hc hp0 hp1 => ?_)
    repeat' (first | simp -implicitDefEqProofs only [zG1,zG2,zG3,zG4,zG5,zG6,zG7,eq_self,resV,rval,X.val,binv,fillL,setR,↓reduceIte,Nat.reduceEqDiff,Nat.reduceAdd,Nat.reduceMul,Nat.reduceLeDiff,Nat.reduceLT,Nat.reduceSub,reduceCtorEq,zGq] | ((with_reducible refine rows_intro (fun _ hb => ?_)); try simp only [set_none, ne_eq] at hb) | ((with_reducible refine new_intro (fun _ hb => ?_)); try simp only [set_none, ne_eq] at hb) | (with_reducible refine draw_same ?_) | ((with_reducible refine gd_split ?_ (fun _ => ?_) (fun _ => ?_)); exact rfl) | ((with_reducible refine td_split ?_ (fun _ => ?_) (fun _ => ?_)); exact rfl) | (with_reducible refine c_split (fun _ => ?_) (fun _ => ?_)))
    refine finS (K := K) s.kind s.var s.box s.e s.body.length s.els.length A0 c0 A1 c1 A2 c2 rfl hx (d1.kn (Kn.same H x ⟨z8, true, 63, 8⟩) hxb) hr r1 ((hr.dr l1).trans d1) (fun C4 hc4 r4 d4 => ?_) (fun C4 hc4 cs hK => ?_)
    · exact h s A0 c0 A1 c1 A2 c2 C4 p1 r4 d4 (hs.le ((hr.dr l1).off_chg hc4 (by simp [set_same]))) ho hc hp0 (by omega)
    · repeat' (first | simp -implicitDefEqProofs only [zG1,zG2,zG3,zG4,zG5,zG6,zG7,eq_self,resV,rval,X.val,binv,fillL,setR,↓reduceIte,Nat.reduceEqDiff,Nat.reduceAdd,Nat.reduceMul,Nat.reduceLeDiff,Nat.reduceLT,Nat.reduceSub,reduceCtorEq,zGq, cs] | ((with_reducible refine rows_intro (fun _ hb => ?_)); try simp only [set_none, ne_eq] at hb) | ((with_reducible refine new_intro (fun _ hb => ?_)); try simp only [set_none, ne_eq] at hb) | (with_reducible refine draw_same ?_) | ((with_reducible refine gd_split ?_ (fun _ => ?_) (fun _ => ?_)); exact rfl) | ((with_reducible refine td_split ?_ (fun _ => ?_) (fun _ => ?_)); exact rfl) | (with_reducible refine c_split (fun _ => ?_) (fun _ => ?_)))
      exact ret_same hK
  · have g1 : decide (B < 1) = false := by simp; omega
    refine acalls_of_sx mix Try.func96 of96 (by simp [ir96]) ?_; rw [ir96]; (try delta qT qI qC qO qM qG)
    repeat' (first | simp -implicitDefEqProofs only [zG1,zG2,zG3,zG4,zG5,zG6,zG7,eq_self,resV,rval,X.val,binv,fillL,setR,↓reduceIte,Nat.reduceEqDiff,Nat.reduceAdd,Nat.reduceMul,Nat.reduceLeDiff,Nat.reduceLT,Nat.reduceSub,reduceCtorEq,zGq, g1] | ((with_reducible refine rows_intro (fun _ hb => ?_)); try simp only [set_none, ne_eq] at hb) | ((with_reducible refine new_intro (fun _ hb => ?_)); try simp only [set_none, ne_eq] at hb) | (with_reducible refine draw_same ?_) | ((with_reducible refine gd_split ?_ (fun _ => ?_) (fun _ => ?_)); exact rfl) | ((with_reducible refine td_split ?_ (fun _ => ?_) (fun _ => ?_)); exact rfl) | (with_reducible refine c_split (fun _ => ?_) (fun _ => ?_)))
    rename_i x
    have hx := hb
    have hxb : ¬ x = b := by rintro rfl; exact hr.ne hx
    have l1 := (AHeap.le.refl H).fresh hx ⟨z8, true, 63, 8⟩
    refine pickK_ok _ _ (hr.fresh hx _) B (by omega) (by omega) (by omega) (fun v C1 r1 d1 hv0 hv1 => ?_)
    have d1' := (hr.dr l1).trans d1
    have k1 := d1.kn (Kn.same H x ⟨z8, true, 63, 8⟩) hxb
    repeat' (first | simp -implicitDefEqProofs only [zG1,zG2,zG3,zG4,zG5,zG6,zG7,eq_self,resV,rval,X.val,binv,fillL,setR,↓reduceIte,Nat.reduceEqDiff,Nat.reduceAdd,Nat.reduceMul,Nat.reduceLeDiff,Nat.reduceLT,Nat.reduceSub,reduceCtorEq,zGq] | ((with_reducible refine rows_intro (fun _ hb => ?_)); try simp only [set_none, ne_eq] at hb) | ((with_reducible refine new_intro (fun _ hb => ?_)); try simp only [set_none, ne_eq] at hb) | (with_reducible refine draw_same ?_) | ((with_reducible refine gd_split ?_ (fun _ => ?_) (fun _ => ?_)); exact rfl) | ((with_reducible refine td_split ?_ (fun _ => ?_) (fun _ => ?_)); exact rfl) | (with_reducible refine c_split (fun _ => ?_) (fun _ => ?_)))
    refine pickK_ok _ _ r1 2 (by omega) (by omega) (by decide) (fun u C2 r2 d2 hu0 hu1 => ?_)
    have d2' := d1'.trans d2
    have k2 := d2.kn k1 hxb
    repeat' (first | simp -implicitDefEqProofs only [zG1,zG2,zG3,zG4,zG5,zG6,zG7,eq_self,resV,rval,X.val,binv,fillL,setR,↓reduceIte,Nat.reduceEqDiff,Nat.reduceAdd,Nat.reduceMul,Nat.reduceLeDiff,Nat.reduceLT,Nat.reduceSub,reduceCtorEq,zGq] | ((with_reducible refine rows_intro (fun _ hb => ?_)); try simp only [set_none, ne_eq] at hb) | ((with_reducible refine new_intro (fun _ hb => ?_)); try simp only [set_none, ne_eq] at hb) | (with_reducible refine draw_same ?_) | ((with_reducible refine gd_split ?_ (fun _ => ?_) (fun _ => ?_)); exact rfl) | ((with_reducible refine td_split ?_ (fun _ => ?_) (fun _ => ?_)); exact rfl) | (with_reducible refine c_split (fun _ => ?_) (fun _ => ?_)))
    · refine pickK_ok _ _ r2 3 (by omega) (by omega) (by decide) (fun u2 C3 r3 d3 hw0 hw1 => ?_)
      have d3' := d2'.trans d3
      have k3 := d3.kn k2 hxb
      obtain ⟨j, rfl⟩ := nat3 hw0
      have w1 := one_add (j := j) (by omega)
      have hT : drT (1 + j) ≤ 45 := by
        have : j < 3 := by omega
        match j, this with
        | 0, _ | 1, _ | 2, _ => decide
      repeat' (first | simp -implicitDefEqProofs only [zG1,zG2,zG3,zG4,zG5,zG6,zG7,eq_self,resV,rval,X.val,binv,fillL,setR,↓reduceIte,Nat.reduceEqDiff,Nat.reduceAdd,Nat.reduceMul,Nat.reduceLeDiff,Nat.reduceLT,Nat.reduceSub,reduceCtorEq,zGq, w1] | ((with_reducible refine rows_intro (fun _ hb => ?_)); try simp only [set_none, ne_eq] at hb) | ((with_reducible refine new_intro (fun _ hb => ?_)); try simp only [set_none, ne_eq] at hb) | (with_reducible refine draw_same ?_) | ((with_reducible refine gd_split ?_ (fun _ => ?_) (fun _ => ?_)); exact rfl) | ((with_reducible refine td_split ?_ (fun _ => ?_) (fun _ => ?_)); exact rfl) | (with_reducible refine c_split (fun _ => ?_) (fun _ => ?_)))
      refine l91Expr_ok _ (1 + j) _ _ _ (by omega) r3 (by omega) (by omega) (fun e A c C4 p4 r4 d4 he hE hp0 hp1 => ?_)
      repeat' (first | simp -implicitDefEqProofs only [zG1,zG2,zG3,zG4,zG5,zG6,zG7,eq_self,resV,rval,X.val,binv,fillL,setR,↓reduceIte,Nat.reduceEqDiff,Nat.reduceAdd,Nat.reduceMul,Nat.reduceLeDiff,Nat.reduceLT,Nat.reduceSub,reduceCtorEq,zGq] | ((with_reducible refine rows_intro (fun _ hb => ?_)); try simp only [set_none, ne_eq] at hb) | ((with_reducible refine new_intro (fun _ hb => ?_)); try simp only [set_none, ne_eq] at hb) | (with_reducible refine draw_same ?_) | ((with_reducible refine gd_split ?_ (fun _ => ?_) (fun _ => ?_)); exact rfl) | ((with_reducible refine td_split ?_ (fun _ => ?_) (fun _ => ?_)); exact rfl) | (with_reducible refine c_split (fun _ => ?_) (fun _ => ?_)))
      have he5 : exprOk 5 e = true := ok_up5 (show max (1 + j) 1 ≤ 5 by omega) he
      refine finS (K := K) 4 0 v e 0 0 A c none 0 none 0 rfl hx (d4.kn k3 hxb) hr r4 (d3'.trans d4) (fun C5 hc r5 d5 => ?_) (fun C5 hc cs hK => ?_)
      · refine h (.mk 4 0 v e [] []) A c none 0 none 0 C5 p4 r5 d5 (stv_simple _ _ _ _ (hE.le (d3'.off_chg hc (by simpa using k3.ne)))) (ok_simple (by simp [St.kind]) (by simp [St.kind]) ?_) (by simp [St.cnt, cntL]) (by omega) (by omega)
        have : v ≤ 2 := by omega
        simp only [stSimple, St.kind, St.var, St.box, St.e, St.body, St.els, List.isEmpty_nil, Bool.true_and]
        rw [he5]
        simp [hv0, this]
      · repeat' (first | simp -implicitDefEqProofs only [zG1,zG2,zG3,zG4,zG5,zG6,zG7,eq_self,resV,rval,X.val,binv,fillL,setR,↓reduceIte,Nat.reduceEqDiff,Nat.reduceAdd,Nat.reduceMul,Nat.reduceLeDiff,Nat.reduceLT,Nat.reduceSub,reduceCtorEq,zGq, cs] | ((with_reducible refine rows_intro (fun _ hb => ?_)); try simp only [set_none, ne_eq] at hb) | ((with_reducible refine new_intro (fun _ hb => ?_)); try simp only [set_none, ne_eq] at hb) | (with_reducible refine draw_same ?_) | ((with_reducible refine gd_split ?_ (fun _ => ?_) (fun _ => ?_)); exact rfl) | ((with_reducible refine td_split ?_ (fun _ => ?_) (fun _ => ?_)); exact rfl) | (with_reducible refine c_split (fun _ => ?_) (fun _ => ?_)))
        exact ret_same hK
    · refine pickK_ok _ _ r2 3 (by omega) (by omega) (by decide) (fun u2 C3 r3 d3 hw0 hw1 => ?_)
      repeat' (first | simp -implicitDefEqProofs only [zG1,zG2,zG3,zG4,zG5,zG6,zG7,eq_self,resV,rval,X.val,binv,fillL,setR,↓reduceIte,Nat.reduceEqDiff,Nat.reduceAdd,Nat.reduceMul,Nat.reduceLeDiff,Nat.reduceLT,Nat.reduceSub,reduceCtorEq,zGq] | ((with_reducible refine rows_intro (fun _ hb => ?_)); try simp only [set_none, ne_eq] at hb) | ((with_reducible refine new_intro (fun _ hb => ?_)); try simp only [set_none, ne_eq] at hb) | (with_reducible refine draw_same ?_) | ((with_reducible refine gd_split ?_ (fun _ => ?_) (fun _ => ?_)); exact rfl) | ((with_reducible refine td_split ?_ (fun _ => ?_) (fun _ => ?_)); exact rfl) | (with_reducible refine c_split (fun _ => ?_) (fun _ => ?_)))
      refine finS (K := K) 5 u2 v plain0 0 0 none 0 none 0 none 0 rfl hx (d3.kn k2 hxb) hr r3 (d2'.trans d3) (fun C5 hc r5 d5 => ?_) (fun C5 hc cs hK => ?_)
      · refine h (.mk 5 u2 v plain0 [] []) none 0 none 0 none 0 C5 _ r5 d5 (stv_simple _ _ _ _ (exV_leaf _ _ _ _ _)) (ok_simple (by simp [St.kind]) (by simp [St.kind]) ?_) (by simp [St.cnt, cntL]) (by omega) (by omega)
        have : v ≤ 2 := by omega
        have : u2 ≤ 3 := by omega
        simp [stSimple, St.kind, St.var, St.box, St.e, St.body, St.els, plainE, plain0, Ex.op, Ex.n, Ex.args, *]
      · repeat' (first | simp -implicitDefEqProofs only [zG1,zG2,zG3,zG4,zG5,zG6,zG7,eq_self,resV,rval,X.val,binv,fillL,setR,↓reduceIte,Nat.reduceEqDiff,Nat.reduceAdd,Nat.reduceMul,Nat.reduceLeDiff,Nat.reduceLT,Nat.reduceSub,reduceCtorEq,zGq, cs] | ((with_reducible refine rows_intro (fun _ hb => ?_)); try simp only [set_none, ne_eq] at hb) | ((with_reducible refine new_intro (fun _ hb => ?_)); try simp only [set_none, ne_eq] at hb) | (with_reducible refine draw_same ?_) | ((with_reducible refine gd_split ?_ (fun _ => ?_) (fun _ => ?_)); exact rfl) | ((with_reducible refine td_split ?_ (fun _ => ?_) (fun _ => ?_)); exact rfl) | (with_reducible refine c_split (fun _ => ?_) (fun _ => ?_)))
        exact ret_same hK
end
end Go.Proofs.Ytjhedgoafkabiaa
namespace Go.Proofs.Ytjhedgoafkabiaa
set_option linter.all false
open Go Go.RowKit
set_option maxRecDepth 100000
variable (w0 : World)
theorem blk_read {H C2 C3 Cf : AHeap} {b : Nat} {bs cs : List Nat} {t : TypeId} {A : Option Addr} {n c : Nat} {xs : List Value} {ss : List St} (hd : Dr H C2 b) (hn : New C2 bs) (hr : Rw C3 t 8 (.slice A n c) n xs bs) (hs : StL ((C3.off C2).no fun x => x ∈ bs) ss xs)
    (hc : Chg C3 Cf cs) (hcs : ∀ x, x ∈ cs → C2 x ≠ none) : StR (Cf.off H) ss A 0 := by
  have h1 := hs.le ((no_le _ _).trans (hd.off_chg hc hcs))
  refine h1.str ?_
  rcases hr with ⟨e, _, rfl, _⟩ | ⟨b', cap, e, rfl, _, _, _, hk⟩
  · exact Fl.nil _ _
  · simp only [Value.slice.injEq] at e
    obtain ⟨rfl, _⟩ := e
    have hb' := hn b' (by simp)
    exact (kn_off (H := H) (hd.nov hb') (hk.chg hc fun hm => hcs _ hm hb')).fl fun _ _ h => h
/-- What a draw of statements in a block owes. -/
abbrev BlkP (d : Nat) : Prop := ∀ (S : Src) (b : Nat) (H : AHeap) (K : Value → AHeap → Prop) (p B : Int) (n cm pm : Nat) (loops : Bool), RdK S H b p → B ≤ 3 → 0 ≤ p → n ≤ 8 → n * cB d ≤ cm → n * pB d ≤ pm → p + pm ≤ 1099511600000 →
  (∀ ss xs v bs C' p', RdK S C' b p' → Dr H C' b → New H bs → Rw C' 63 8 v ss.length xs bs → StL ((C'.off H).no fun x => x ∈ bs) ss xs → ss.all (stOk d) = true → ss.length ≤ 2 * n → cntL ss ≤ cm → p ≤ p' → p' ≤ p + pm → K v C') →
  ACalls Try.prog w0 71 [.pointer (some ⟨b, 0, none⟩), .int .i64 B, .int .i64 d, .int .i64 n, .bool loops] H K
theorem mul3 {j m : Nat} (h : j < 3) : j * m ≤ 2 * m := Nat.mul_le_mul_right _ (by omega)
theorem l92If_ok (d : Nat) (hd3 : d ≤ 3) (ih : BlkP w0 d) {S : Src} {b : Nat} {H : AHeap} {p : Int} (K : Value → AHeap → Prop) (hr : RdK S H b p) (B : Int) (hB : B ≤ 3) (loops : Bool) (h0 : 0 ≤ p) (h1 : p + (4 * pB d + 30) ≤ 1099511600000)
    (h : Out1 S b H p (d + 1) (4 * cB d + 1) (4 * pB d + 30) K) : ACalls Try.prog w0 51 [.pointer (some ⟨b, 0, none⟩), .int .i64 B, .int .i64 ((d + 1 : Nat) : Int), .bool loops] H K := by
  have w0' : IntKind.i64.wrap (((d + 1 : Nat) : Int) - 1) = (d : Int) := nat_dn (by omega)
  refine acalls_of_sx mix Try.func51 of51 (by simp [ir51]) ?_; rw [ir51]; (try delta qT qI qC qO qM qG)
  repeat' (first | simp -implicitDefEqProofs only [zG1,zG2,zG3,zG4,zG5,zG6,zG7,eq_self,resV,rval,X.val,binv,fillL,setR,↓reduceIte,Nat.reduceEqDiff,Nat.reduceAdd,Nat.reduceMul,Nat.reduceLeDiff,Nat.reduceLT,Nat.reduceSub,reduceCtorEq,zGq] | ((with_reducible refine rows_intro (fun _ hb => ?_)); try simp only [set_none, ne_eq] at hb) | ((with_reducible refine new_intro (fun _ hb => ?_)); try simp only [set_none, ne_eq] at hb) | (with_reducible refine draw_same ?_) | ((with_reducible refine gd_split ?_ (fun _ => ?_) (fun _ => ?_)); exact rfl) | ((with_reducible refine td_split ?_ (fun _ => ?_) (fun _ => ?_)); exact rfl) | (with_reducible refine c_split (fun _ => ?_) (fun _ => ?_)))
  rename_i x
  have hx := hb
  have hxb : ¬ x = b := by rintro rfl; exact hr.ne hx
  have l1 := (AHeap.le.refl H).fresh hx ⟨z8, true, 63, 8⟩
  refine pickK_ok _ _ (hr.fresh hx _) 2 (by omega) (by omega) (by decide) (fun v C1 r1 d1 hv0 hv1 => ?_)
  have d1' := (hr.dr l1).trans d1
  have k1 := d1.kn (Kn.same H x ⟨z8, true, 63, 8⟩) hxb
  obtain ⟨j, rfl⟩ := nat3 hv0
  have w1 := one_add (j := j) (by omega)
  have hT : drT (1 + j) ≤ 21 := by
    have : j < 2 := by omega
    match j, this with
    | 0, _ | 1, _ => decide
  repeat' (first | simp -implicitDefEqProofs only [zG1,zG2,zG3,zG4,zG5,zG6,zG7,eq_self,resV,rval,X.val,binv,fillL,setR,↓reduceIte,Nat.reduceEqDiff,Nat.reduceAdd,Nat.reduceMul,Nat.reduceLeDiff,Nat.reduceLT,Nat.reduceSub,reduceCtorEq,zGq, w1] | ((with_reducible refine rows_intro (fun _ hb => ?_)); try simp only [set_none, ne_eq] at hb) | ((with_reducible refine new_intro (fun _ hb => ?_)); try simp only [set_none, ne_eq] at hb) | (with_reducible refine draw_same ?_) | ((with_reducible refine gd_split ?_ (fun _ => ?_) (fun _ => ?_)); exact rfl) | ((with_reducible refine td_split ?_ (fun _ => ?_) (fun _ => ?_)); exact rfl) | (with_reducible refine c_split (fun _ => ?_) (fun _ => ?_)))
  refine l91Expr_ok _ (1 + j) _ _ _ (by omega) r1 (by omega) (by omega) (fun e A0 c0 C2 p2 r2 d2 he hE hp0 hp1 => ?_)
  have he5 : exprOk 5 e = true := ok_up5 (show max (1 + j) 1 ≤ 5 by omega) he
  have d2' := d1'.trans d2
  have k2 := d2.kn k1 hxb
  repeat' (first | simp -implicitDefEqProofs only [zG1,zG2,zG3,zG4,zG5,zG6,zG7,eq_self,resV,rval,X.val,binv,fillL,setR,↓reduceIte,Nat.reduceEqDiff,Nat.reduceAdd,Nat.reduceMul,Nat.reduceLeDiff,Nat.reduceLT,Nat.reduceSub,reduceCtorEq,zGq] | ((with_reducible refine rows_intro (fun _ hb => ?_)); try simp only [set_none, ne_eq] at hb) | ((with_reducible refine new_intro (fun _ hb => ?_)); try simp only [set_none, ne_eq] at hb) | (with_reducible refine draw_same ?_) | ((with_reducible refine gd_split ?_ (fun _ => ?_) (fun _ => ?_)); exact rfl) | ((with_reducible refine td_split ?_ (fun _ => ?_) (fun _ => ?_)); exact rfl) | (with_reducible refine c_split (fun _ => ?_) (fun _ => ?_)))
  rename_i y
  have hy := hb
  have l3 := (AHeap.le.refl C2).fresh hy ⟨[.int .i64 e.op, .int .i64 e.n, .slice A0 e.args.length c0], true, 61, 3⟩
  have hyx : ¬ y = x := fun e => k2.ne (e ▸ hy)
  have hyb : ¬ y = b := fun e => r2.ne (e ▸ hy)
  have k3 := k2.trans l3
  have ky := Kn.same C2 y ⟨[.int .i64 e.op, .int .i64 e.n, .slice A0 e.args.length c0], true, 61, 3⟩
  have r3 := r2.le l3
  have d3' := d2'.then_le l3
  generalize C2.set y ⟨[.int .i64 e.op, .int .i64 e.n, .slice A0 e.args.length c0], true, 61, 3⟩ = C3 at *
  refine pickK_ok _ _ r3 3 (by omega) (by omega) (by decide) (fun v2 C4 r4 d4 hu0 hu1 => ?_)
  obtain ⟨i, rfl⟩ := nat3 hu0
  have hi : i < 3 := by omega
  have d4' := d3'.trans d4
  have k4 := d4.kn k3 hxb
  have ky4 := d4.kn ky hyb
  repeat' (first | simp -implicitDefEqProofs only [zG1,zG2,zG3,zG4,zG5,zG6,zG7,eq_self,resV,rval,X.val,binv,fillL,setR,↓reduceIte,Nat.reduceEqDiff,Nat.reduceAdd,Nat.reduceMul,Nat.reduceLeDiff,Nat.reduceLT,Nat.reduceSub,reduceCtorEq,zGq, w0'] | ((with_reducible refine rows_intro (fun _ hb => ?_)); try simp only [set_none, ne_eq] at hb) | ((with_reducible refine new_intro (fun _ hb => ?_)); try simp only [set_none, ne_eq] at hb) | (with_reducible refine draw_same ?_) | ((with_reducible refine gd_split ?_ (fun _ => ?_) (fun _ => ?_)); exact rfl) | ((with_reducible refine td_split ?_ (fun _ => ?_) (fun _ => ?_)); exact rfl) | (with_reducible refine c_split (fun _ => ?_) (fun _ => ?_)))
  refine ih S b C4 _ _ B i (2 * cB d) (2 * pB d) loops r4 hB (by omega) (by omega) (mul3 hi) (mul3 hi) (by omega) (fun bd xs v5 bs5 C5 p5 r5 d5 n5 w5 s5 hbd hbl hbc hp2 hp3 => ?_)
  obtain ⟨A1, c1, rfl, -⟩ := w5.fl
  have d5' := d4'.trans d5
  have k5 := d5.kn k4 hxb
  have ky5 := d5.kn ky4 hyb
  repeat' (first | simp -implicitDefEqProofs only [zG1,zG2,zG3,zG4,zG5,zG6,zG7,eq_self,resV,rval,X.val,binv,fillL,setR,↓reduceIte,Nat.reduceEqDiff,Nat.reduceAdd,Nat.reduceMul,Nat.reduceLeDiff,Nat.reduceLT,Nat.reduceSub,reduceCtorEq,zGq] | ((with_reducible refine rows_intro (fun _ hb => ?_)); try simp only [set_none, ne_eq] at hb) | ((with_reducible refine new_intro (fun _ hb => ?_)); try simp only [set_none, ne_eq] at hb) | ((with_reducible refine gd_split ?_ (fun _ => ?_) (fun _ => ?_)); exact rfl) | ((with_reducible refine td_split ?_ (fun _ => ?_) (fun _ => ?_)); exact rfl) | (with_reducible refine c_split (fun _ => ?_) (fun _ => ?_)))
  refine draw_at (C5.no fun z => z ∈ [b, x]) (no_le _ _) ?_
  have ky' : Kn (C5.no fun z => z ∈ [b, x]) y _ := ky5.chg Chg.no (by simp; exact ⟨hyb, hyx⟩)
  have q0 := ky'.cell (j := 0) rfl
  have q1 := ky'.cell (j := 1) rfl
  have q2 := ky'.cell (j := 2) rfl
  repeat' (first | simp -implicitDefEqProofs only [zG1,zG2,zG3,zG4,zG5,zG6,zG7,eq_self,resV,rval,X.val,binv,fillL,setR,↓reduceIte,Nat.reduceEqDiff,Nat.reduceAdd,Nat.reduceMul,Nat.reduceLeDiff,Nat.reduceLT,Nat.reduceSub,reduceCtorEq,zGq, w0', q0, q1, q2, adr_lit, Nat.zero_add] | ((with_reducible refine rows_intro (fun _ hb => ?_)); try simp only [set_none, ne_eq] at hb) | ((with_reducible refine new_intro (fun _ hb => ?_)); try simp only [set_none, ne_eq] at hb) | ((with_reducible refine gd_split ?_ (fun _ => ?_) (fun _ => ?_)); exact rfl) | ((with_reducible refine td_split ?_ (fun _ => ?_) (fun _ => ?_)); exact rfl) | (with_reducible refine c_split (fun _ => ?_) (fun _ => ?_)))
  refine pickK_ok _ _ r5 3 (by omega) (by omega) (by decide) (fun v3 C6 r6 d6 hw0 hw1 => ?_)
  obtain ⟨i2, rfl⟩ := nat3 hw0
  have hi2 : i2 < 3 := by omega
  have d6' := d5'.trans d6
  have k6 := d6.kn k5 hxb
  have lp6 : AHeap.le (C5.no fun z => z ∈ [b, x]) C6 := ((no_del C5 [b, x] (by simp)).trans d6.le).trans (del_le' _ _)
  repeat' (first | simp -implicitDefEqProofs only [zG1,zG2,zG3,zG4,zG5,zG6,zG7,eq_self,resV,rval,X.val,binv,fillL,setR,↓reduceIte,Nat.reduceEqDiff,Nat.reduceAdd,Nat.reduceMul,Nat.reduceLeDiff,Nat.reduceLT,Nat.reduceSub,reduceCtorEq,zGq, lp6] | ((with_reducible refine rows_intro (fun _ hb => ?_)); try simp only [set_none, ne_eq] at hb) | ((with_reducible refine new_intro (fun _ hb => ?_)); try simp only [set_none, ne_eq] at hb) | ((with_reducible refine gd_split ?_ (fun _ => ?_) (fun _ => ?_)); exact rfl) | ((with_reducible refine td_split ?_ (fun _ => ?_) (fun _ => ?_)); exact rfl) | (with_reducible refine c_split (fun _ => ?_) (fun _ => ?_)))
  refine ih S b C6 _ _ B i2 (2 * cB d) (2 * pB d) loops r6 hB (by omega) (by omega) (mul3 hi2) (mul3 hi2) (by omega) (fun el ys v7 bs7 C7 p7 r7 d7 n7 w7 s7 hel hell helc hp4 hp5 => ?_)
  obtain ⟨A2, c2, rfl, -⟩ := w7.fl
  have d7' := d6'.trans d7
  have k7 := d7.kn k6 hxb
  have lp7 : AHeap.le (C5.no fun z => z ∈ [b, x]) C7 := ((no_del C5 [b, x] (by simp)).trans (d6.trans d7).le).trans (del_le' _ _)
  repeat' (first | simp -implicitDefEqProofs only [zG1,zG2,zG3,zG4,zG5,zG6,zG7,eq_self,resV,rval,X.val,binv,fillL,setR,↓reduceIte,Nat.reduceEqDiff,Nat.reduceAdd,Nat.reduceMul,Nat.reduceLeDiff,Nat.reduceLT,Nat.reduceSub,reduceCtorEq,zGq, lp7] | ((with_reducible refine rows_intro (fun _ hb => ?_)); try simp only [set_none, ne_eq] at hb) | ((with_reducible refine new_intro (fun _ hb => ?_)); try simp only [set_none, ne_eq] at hb) | ((with_reducible refine gd_split ?_ (fun _ => ?_) (fun _ => ?_)); exact rfl) | ((with_reducible refine td_split ?_ (fun _ => ?_) (fun _ => ?_)); exact rfl) | (with_reducible refine c_split (fun _ => ?_) (fun _ => ?_)))
  refine finS (K := K) 2 0 0 e bd.length el.length A0 c0 A1 c1 A2 c2 rfl hx k7 hr r7 d7' (fun C8 hc r8 d8 => ?_) (fun C8 hc cs hK => ?_)
  · have hx2 : ∀ z, z ∈ [b, x] → C1 z ≠ none := fun z hz => by
      simp only [List.mem_cons, List.not_mem_nil, or_false] at hz
      rcases hz with rfl | rfl
      · exact r1.ne
      · exact k1.ne
    have hx4 : ∀ z, z ∈ [b, x] → C4 z ≠ none := fun z hz => by
      simp only [List.mem_cons, List.not_mem_nil, or_false] at hz
      rcases hz with rfl | rfl
      · exact r4.ne
      · exact k4.ne
    have hx6 : ∀ z, z ∈ [x] → C6 z ≠ none := fun z hz => by
      simp only [List.mem_cons, List.not_mem_nil, or_false] at hz
      subst hz
      exact k6.ne
    have c58 : Chg C5 C8 [b, x] := ((d6.trans d7).toChg (by simp)).trans (hc.mono (by simp))
    have c28 : Chg C2 C8 [b, x] := (Chg.of_le l3).trans ((d4.trans d5).toChg (by simp) |>.trans c58)
    have hE' := hE.le (d1'.off_chg c28 hx2)
    have hB' := blk_read d4' n5 w5 s5 c58 hx4
    have hL' := blk_read d6' n7 w7 s7 hc hx6
    have bb := w5.bound
    have lb := w7.bound
    refine h (.mk 2 0 0 e bd el) A0 c0 A1 c1 A2 c2 C8 p7 r8 d8 ?_ ?_ ?_ (by omega) (by omega)
    · obtain ⟨B0, d0, he', g1, g2⟩ := hE'.open_
      simp only [List.cons.injEq, Value.slice.injEq, true_and, and_true] at he'
      obtain ⟨rfl, rfl⟩ := he'
      simp only [StV]
      exact ⟨_, _, _, _, _, _, rfl, g1, g2, ⟨bb, hB'⟩, lb, hL'⟩
    · simp only [stOk, St.kind, stBlock, St.var, St.box, St.e, St.body, St.els, he5, hbd, hel]
      simp
    · simp only [St.cnt]; omega
  · have lp8 := hc.keep lp7 (New.one (no_in (by simp)))
    repeat' (first | simp -implicitDefEqProofs only [zG1,zG2,zG3,zG4,zG5,zG6,zG7,eq_self,resV,rval,X.val,binv,fillL,setR,↓reduceIte,Nat.reduceEqDiff,Nat.reduceAdd,Nat.reduceMul,Nat.reduceLeDiff,Nat.reduceLT,Nat.reduceSub,reduceCtorEq,zGq, cs, lp8] | ((with_reducible refine rows_intro (fun _ hb => ?_)); try simp only [set_none, ne_eq] at hb) | ((with_reducible refine new_intro (fun _ hb => ?_)); try simp only [set_none, ne_eq] at hb) | ((with_reducible refine gd_split ?_ (fun _ => ?_) (fun _ => ?_)); exact rfl) | ((with_reducible refine td_split ?_ (fun _ => ?_) (fun _ => ?_)); exact rfl) | (with_reducible refine c_split (fun _ => ?_) (fun _ => ?_)))
    exact ret_same hK
end Go.Proofs.Ytjhedgoafkabiaa
namespace Go.Proofs.Ytjhedgoafkabiaa
set_option linter.all false
open Go Go.RowKit
set_option maxRecDepth 100000
/-- What a draw of one statement, or two, owes. -/
abbrev OutL (S : Src) (b : Nat) (H : AHeap) (p : Int) (d : Nat) (cm pm : Nat) (K : Value → AHeap → Prop) : Prop :=
  ∀ (ss : List St) (A : Option Addr) (c : Nat) (C' : AHeap) (p' : Int), RdK S C' b p' → Dr H C' b → StR (C'.off H) ss A 0 → ss.all (stOk d) = true → ss.length ≤ 2 → cntL ss ≤ cm → p ≤ p' → p' ≤ p + pm → K (.slice A ss.length c) C'
structure LS (S : Src) (b : Nat) (H Hp : AHeap) (v : Value) (n : Nat) (xs : List Value) (bs : List Nat) (C : AHeap) (q : Int) : Prop where
  lp : AHeap.le Hp C
  r : RdK S C b q
  d : Dr H C b
  w : Rw C 63 8 v n xs bs
  nH : New H bs
  nP : New Hp bs
  pb : Hp b = none
  f0 : Fl (H.del b) S.A (u8s S.zs)
theorem New.le' {H C : AHeap} {b : Nat} {bs : List Nat} (h : New C bs) (d : Dr H C b) : New H bs := fun y hy => d.nov (h y hy)
section
variable {S : Src} {b x : Nat} {H Hp C C' : AHeap} {v : Value} {n : Nat} {xs : List Value} {bs : List Nat} {q : Int}
theorem LS.nb (s : LS S b H Hp v n xs bs C q) : ¬ b ∈ bs := fun hm => s.d.b0 (s.nH b hm)
theorem LS.le (s : LS S b H Hp v n xs bs C q) (l : AHeap.le C C') : LS S b H Hp v n xs bs C' q := ⟨s.lp.trans l, s.r.le l, s.d.then_le l, s.w.trans l, s.nH, s.nP, s.pb, s.f0⟩
theorem LS.pick (s : LS S b H Hp v n xs bs C q) {q' : Int} (r' : RdK S C' b q') (d' : Dr C C' b) : LS S b H Hp v n xs bs C' q' := by
  refine ⟨fun y k hy => ?_, r', s.d.trans d', s.w.chg (d'.toChg (bs := [b]) (by simp)) fun y hy hm => ?_, s.nH, s.nP, s.pb, s.f0⟩
  · have e : ¬ y = b := by rintro rfl; rw [s.pb] at hy; cases hy
    exact d'.kn (s.lp y k hy) e
  · simp only [List.mem_cons, List.not_mem_nil, or_false] at hm
    exact s.nb (hm ▸ hy)
theorem LS.off (s : LS S b H Hp v n xs bs C q) (hx : C x = none) : ¬ x ∈ bs := fun hm => by
  rcases s.w with ⟨_, _, _, rfl⟩ | ⟨b', cap, _, rfl, _, _, _, hk⟩
  · cases hm
  · simp only [List.mem_cons, List.not_mem_nil, or_false] at hm
    subst hm; exact hk.ne hx
theorem LS.chg (s : LS S b H Hp v n xs bs C q) {cs : List Nat} {v' : Value} {n' : Nat} {xs' : List Value} {bs' : List Nat} (hc : Chg C C' cs) (hH : New H cs) (hP : New Hp cs) (hn : ∀ y, y ∈ bs' → H y = none ∧ Hp y = none) (w : Rw C' 63 8 v' n' xs' bs') : LS S b H Hp v' n' xs' bs' C' q := by
  have d' := s.d.chg hc hH
  exact ⟨hc.keep s.lp hP, s.r.chg hc (fun hm => s.d.b0 (hH b hm)) s.f0 d'.le, d', w, fun y hy => (hn y hy).1, fun y hy => (hn y hy).2, s.pb, s.f0⟩
theorem LS.app (s : LS S b H Hp v n xs bs C q) {v' : Value} {n' : Nat} {xs' : List Value} {bs' : List Nat} (hc : Chg C C' bs) (hn : ∀ y, y ∈ bs' → y ∈ bs ∨ C y = none) (w : Rw C' 63 8 v' n' xs' bs') : LS S b H Hp v' n' xs' bs' C' q :=
  s.chg hc s.nH s.nP (fun y hy => by
    rcases hn y hy with h | h
    · exact ⟨s.nH y h, s.nP y h⟩
    · exact ⟨s.d.nov h, s.lp.none h⟩) w
theorem LS.st (s : LS S b H Hp v n xs bs C q) (hx : H x = none) (hp : Hp x = none) (hb : ¬ x ∈ bs) (hc : Chg C C' [x]) : LS S b H Hp v n xs bs C' q :=
  s.chg hc (New.one hx) (New.one hp) (fun y hy => ⟨s.nH y hy, s.nP y hy⟩) (s.w.chg hc fun y hy hm => by
    simp only [List.mem_cons, List.not_mem_nil, or_false] at hm
    exact hb (hm ▸ hy))
/-- The last step of a round: d becomes d + 1. -/
abbrev mo (z : Nat) : List Value := [.int .i64 1, .int .i64 3, .int .i64 0, .int .i64 8, .int .i64 0, .slice (some ⟨z, 0, none⟩) 2 2, .slice none 0 0, .slice none 0 0]
def moE : Ex := .mk 8 0 [.mk 13 3 [], .mk 0 1 []]
def moS : St := .mk 1 3 0 moE [] []
theorem mo_v {D : AHeap} {z : Nat} {t : TypeId} {cc : Nat} {A B : Option Addr} {c c' : Nat} (hk : Kn D z ⟨[.int .i64 13, .int .i64 3, .slice A 0 c, .int .i64 0, .int .i64 1, .slice B 0 c'], true, t, cc⟩) : StV D moS (mo z) :=
  stv_simple D 1 3 0 (exV_both (a := .mk 13 3 []) (b := .mk 0 1 []) hk (exV_leaf _ _ _ _ _) (exV_leaf _ _ _ _ _))
theorem LS.leaf {w0 : World} {D : Value → AHeap → Prop} {o m : Int} (s : LS S b H Hp v n xs bs C q) (h : ∀ A c C', AHeap.le C C' → LS S b H Hp v n xs bs C' q → D (.agg #[.int .i64 o, .int .i64 m, .slice A 0 c]) C') : ACalls Try.prog w0 72 [.int .i64 o, .int .i64 m] C D :=
  l4Leaf_ok _ _ _ _ _ fun A c C' l => h A c C' l (s.le l)
theorem LS.lit {D : Value → AHeap → Prop} {z : Nat} (s : LS S b H Hp v n xs bs C q) (h : ∀ y C', ¬ y = b → AHeap.le C C' → LS S b H Hp v n xs bs C' q → Kn C' y ⟨mo z, true, 63, 8⟩ → D (.slice (some ⟨y, 0, none⟩) 1 1) C') : rowsK D C 63 1 (mo z) :=
  rows_intro fun y hy => h y _ (fun e => s.r.ne (e ▸ hy)) ((AHeap.le.refl C).fresh hy _) (s.le ((AHeap.le.refl C).fresh hy _)) (Kn.same _ _ _)
theorem LS.new {D : Value → AHeap → Prop} (s : LS S b H Hp v n xs bs C q) (h : ∀ y C', C y = none → H y = none → Hp y = none → ¬ y ∈ bs → ¬ y = b → AHeap.le C C' → LS S b H Hp v n xs bs C' q → Kn C' y ⟨z8, true, 63, 8⟩ → D (.pointer (some ⟨y, 0, none⟩)) C') : newK D C ⟨z8, true, 63, 8⟩ :=
  new_intro fun y hy => h y _ hy (s.d.nov hy) (s.lp.none hy) (s.off hy) (fun e => s.r.ne (e ▸ hy)) ((AHeap.le.refl C).fresh hy _) (s.le ((AHeap.le.refl C).fresh hy _)) (Kn.same _ _ _)
/-- The body's row gets its last statement. -/
theorem LS.more {w0 : World} {D : Value → AHeap → Prop} {z y : Nat} {c : Nat} {bytes : Nat} (s : LS S b H Hp v n xs bs C q) (k : Kn C y ⟨mo z, true, 63, 8⟩) (hn : n ≤ 100) (hB : bytes = 112)
    (h : ∀ A c' C' bs', Chg C C' bs → (∀ x, x ∈ bs' → x ∈ bs ∨ C x = none) → LS S b H Hp (.slice A (n + 1) c') (n + 1) (xs ++ mo z) bs' C' q → D (.slice A (n + 1) c') C') : appK Try.prog w0 z8 63 bytes v (.slice (some ⟨y, 0, none⟩) 1 c) D C := by
  subst hB
  refine app_rw (news := mo z) (m := 1) s.w (k.fl fun _ _ h => h) rfl (by simp [ocI, ocS]) (by simp only [maxLen]; omega) (by omega) (fun v' C' bs' hc hn w => ?_)
  obtain ⟨A, c', rfl, -⟩ := w.fl
  exact h A c' C' bs' hc hn (s.app hc hn w)
theorem off_app {bs' : List Nat} {y : Nat} {k : Blk} (hk : Kn C y k) (ho : ¬ y ∈ bs) (hn : ∀ x, x ∈ bs' → x ∈ bs ∨ C x = none) : ¬ y ∈ bs' := fun hm => (hn y hm).elim ho hk.ne
theorem LS.put {D : Value → AHeap → Prop} {y : Nat} {u0 u1 u2 u3 u4 u5 u6 u7 : Value} (s : LS S b H Hp v n xs bs C q) (hk : Kn C y ⟨z8, true, 63, 8⟩) (hH : H y = none) (hp : Hp y = none) (hb : ¬ y ∈ bs) (h1 : ∀ u ∈ [u0, u1, u2, u3, u4, u5, u6, u7], u.oneCell' = true)
    (h : ∀ C', Chg C C' [y] → LS S b H Hp v n xs bs C' q → Pt8 C' y u0 u1 u2 u3 u4 u5 u6 u7 → D undef C') : stK 8 (.pointer (some ⟨y, 0, none⟩)) (.agg #[u0, u1, u2, u3, u4, u5, u6, u7]) D C :=
  st_kn8 hk h1 fun C' hc _ cs => h C' hc (s.st hH hp hb hc) cs
theorem off_sub (h : AHeap.le C C') : AHeap.le (C.off H) (C'.off H) := off_any fun x k h1 h2 => ⟨h1, h x k h2⟩
abbrev loE (v : Int) : Ex := .mk 5 0 [.mk 13 3 [], .mk 0 (1 + v) []]
abbrev wh (z : Nat) (n : Nat) (A : Option Addr) (c : Nat) : List Value := [.int .i64 3, .int .i64 0, .int .i64 0, .int .i64 5, .int .i64 0, .slice (some ⟨z, 0, none⟩) 2 2, .slice A n c, .slice none 0 0]
abbrev se (A : Option Addr) (c : Nat) : List Value := [.int .i64 1, .int .i64 3, .int .i64 0, .int .i64 0, .int .i64 0, .slice A 0 c, .slice none 0 0, .slice none 0 0]
/-- The drawn statements, once all is made. -/
theorem finL {p q : Int} {cm pm d : Nat} {K : Value → AHeap → Prop} {A34 : Option Addr} {c34 : Nat} {bd : List St} {z30 y : Nat} {t30 : TypeId} {c30 : Nat} {A25 A29 A37 : Option Addr} {c25 c29 c37 : Nat} {u : Int} (h : OutL S b H p (d + 1) cm pm K)
    (s : LS S b H Hp (.slice A34 (bd.length + 1) c34) (bd.length + 1) xs bs C q) (hs : StL (Hp.off H) (bd ++ [moS]) xs)
    (k30 : Kn C z30 ⟨[.int .i64 13, .int .i64 3, .slice A25 0 c25, .int .i64 0, .int .i64 (1 + u), .slice A29 0 c29], true, t30, c30⟩) (h30 : H z30 = none) (hbd : bd.all (stOk d) = true) (hcm : cntL bd + 3 ≤ cm) (hu : 0 ≤ u ∧ u ≤ 2) (hp0 : p ≤ q) (hp1 : q ≤ p + pm) (hy : C y = none)
    : K (.slice (some ⟨y, 0, none⟩) 2 2) (C.set y ⟨se A37 c37 ++ wh z30 (bd.length + 1) A34 c34, true, 63, 16⟩) := by
  have ly := (AHeap.le.refl C).fresh hy ⟨se A37 c37 ++ wh z30 (bd.length + 1) A34 c34, true, 63, 16⟩
  have sy := s.le ly
  have ky := kn_off (H := H) (s.d.nov hy) (Kn.same C y ⟨se A37 c37 ++ wh z30 (bd.length + 1) A34 c34, true, 63, 16⟩)
  have k30' := kn_off (H := H) h30 (k30.trans ly)
  have hbl := s.w.bound
  refine h [.mk 1 3 0 (.mk 0 0 []) [] [], .mk 3 0 0 (loE u) (bd ++ [moS]) []] (some ⟨y, 0, none⟩) 2 _ q sy.r sy.d ?_ ?_ (by simp) ?_ hp0 hp1
  · generalize C.set y ⟨se A37 c37 ++ wh z30 (bd.length + 1) A34 c34, true, 63, 16⟩ = C' at *
    have hsr : StR (C'.off H) (bd ++ [moS]) A34 0 := by
      refine (hs.le (off_sub sy.lp)).str ?_
      rcases sy.w with ⟨_, e, _, _⟩ | ⟨b', cap, e, hbs, _, _, _, hk⟩
      · omega
      · simp only [Value.slice.injEq] at e
        obtain ⟨rfl, _⟩ := e
        exact (kn_off (s.nH b' (by rw [hbs]; simp)) hk).fl fun _ _ h => h
    have v1 : StV (C'.off H) (.mk 1 3 0 (.mk 0 0 []) [] []) (se A37 c37) := stv_simple _ 1 3 0 (exV_leaf _ _ _ _ _)
    have v2 : StV (C'.off H) (.mk 3 0 0 (loE u) (bd ++ [moS]) []) (wh z30 (bd.length + 1) A34 c34) := by
      simp only [StV]
      have hb := exV_both (o := 5) (a := .mk 13 3 []) (b := .mk 0 (1 + u) []) k30' (exV_leaf _ _ _ _ _) (exV_leaf _ _ _ _ _)
      obtain ⟨B0, d0, he', g1, g2⟩ := hb.open_
      simp only [List.cons.injEq, Value.slice.injEq, true_and, and_true] at he'
      obtain ⟨-, -, rfl, -, rfl⟩ := he'
      exact ⟨some ⟨z30, 0, none⟩, 2, A34, c34, none, 0, by simp [wh, stc, loE, Ex.op, Ex.n, Ex.args], g1, g2, ⟨by simpa using hbl, hsr⟩, Nat.zero_le _, by simp only [StR]⟩
    have hl : StL (C'.off H) [.mk 1 3 0 (.mk 0 0 []) [] [], .mk 3 0 0 (loE u) (bd ++ [moS]) []] (se A37 c37 ++ wh z30 (bd.length + 1) A34 c34) := (StL.one v1).app (StL.one v2)
    exact hl.str (ky.fl fun _ _ h => h)
  · have e1 : exprOk 5 (.mk 0 0 []) = true := by decide
    have e2 : exprOk 5 (loE u) = true := ok_up5 (d := 2) (by decide) (ok_both (by decide) (by decide) (ok_leaf13 (by decide) (by decide)) (ok_leaf0 (by omega) (by omega)))
    have e3 : exprOk 5 moE = true := by decide
    have e4 : ∀ d', stOk d' moS = true := fun d' => ok_simple (by simp [moS, St.kind]) (by simp [moS, St.kind]) (by simp [stSimple, moS, St.kind, St.var, St.box, St.e, St.body, St.els, e3])
    have e5 : stOk (d + 1) (.mk 1 3 0 (.mk 0 0 []) [] []) = true := ok_simple (by simp [St.kind]) (by simp [St.kind]) (by simp [stSimple, St.kind, St.var, St.box, St.e, St.body, St.els, e1])
    simp only [List.all_cons, List.all_nil, Bool.and_true, e5, Bool.true_and]
    simp only [stOk, St.kind, stBlock, St.var, St.box, St.e, St.body, St.els, e2, List.all_append, hbd, List.all_cons, List.all_nil, e4]
    simp
  · simp only [cntL, St.cnt, cntL_app, moS]; omega
end
end Go.Proofs.Ytjhedgoafkabiaa
namespace Go.Proofs.Ytjhedgoafkabiaa
set_option linter.all false
open Go Go.RowKit
set_option maxRecDepth 100000
variable (w0 : World)
theorem pl1 {u : Int} (h0 : 0 ≤ u) (h1 : u < 3) : IntKind.i64.wrap (1 + u) = 1 + u := wrap_i64 (by omega) (by omega)
set_option maxHeartbeats 2000000 in
theorem l92Loop_ok (d : Nat) (hd3 : d ≤ 3) (ih : BlkP w0 d) {S : Src} {b : Nat} {H : AHeap} {p : Int} (K : Value → AHeap → Prop) (hr : RdK S H b p) (B : Int) (hB : B ≤ 3) (h0 : 0 ≤ p) (h1 : p + (2 * pB d + 10) ≤ 1099511600000)
    (h : OutL S b H p (d + 1) (2 * cB d + 3) (2 * pB d + 10) K) : ACalls Try.prog w0 95 [.pointer (some ⟨b, 0, none⟩), .int .i64 B, .int .i64 ((d + 1 : Nat) : Int)] H K := by
  have w0' : IntKind.i64.wrap (((d + 1 : Nat) : Int) - 1) = (d : Int) := nat_dn (by omega)
  refine acalls_of_sx mix Try.func95 of95 (by simp [ir95]) ?_; rw [ir95]; (try delta qT qI qC qO qM qG)
  repeat' (first | simp -implicitDefEqProofs only [zG1,zG2,zG3,zG4,zG5,zG6,zG7,eq_self,resV,rval,X.val,binv,fillL,setR,↓reduceIte,Nat.reduceEqDiff,Nat.reduceAdd,Nat.reduceMul,Nat.reduceLeDiff,Nat.reduceLT,Nat.reduceSub,reduceCtorEq,zGq, w0'] | ((with_reducible refine rows_intro (fun _ hb => ?_)); try simp only [set_none, ne_eq] at hb) | ((with_reducible refine new_intro (fun _ hb => ?_)); try simp only [set_none, ne_eq] at hb) | (with_reducible refine draw_same ?_) | ((with_reducible refine gd_split ?_ (fun _ => ?_) (fun _ => ?_)); exact rfl) | ((with_reducible refine td_split ?_ (fun _ => ?_) (fun _ => ?_)); exact rfl) | (with_reducible refine c_split (fun _ => ?_) (fun _ => ?_)))
  refine pickK_ok _ _ hr 3 (by omega) (by omega) (by decide) (fun v1 C1 r1 d1 hv0 hv1 => ?_)
  obtain ⟨i, rfl⟩ := nat3 hv0
  have hi : i < 3 := by omega
  repeat' (first | simp -implicitDefEqProofs only [zG1,zG2,zG3,zG4,zG5,zG6,zG7,eq_self,resV,rval,X.val,binv,fillL,setR,↓reduceIte,Nat.reduceEqDiff,Nat.reduceAdd,Nat.reduceMul,Nat.reduceLeDiff,Nat.reduceLT,Nat.reduceSub,reduceCtorEq,zGq] | ((with_reducible refine rows_intro (fun _ hb => ?_)); try simp only [set_none, ne_eq] at hb) | ((with_reducible refine new_intro (fun _ hb => ?_)); try simp only [set_none, ne_eq] at hb) | (with_reducible refine draw_same ?_) | ((with_reducible refine gd_split ?_ (fun _ => ?_) (fun _ => ?_)); exact rfl) | ((with_reducible refine td_split ?_ (fun _ => ?_) (fun _ => ?_)); exact rfl) | (with_reducible refine c_split (fun _ => ?_) (fun _ => ?_)))
  refine ih S b C1 _ _ B i (2 * cB d) (2 * pB d) false r1 hB (by omega) (by omega) (mul3 hi) (mul3 hi) (by omega) (fun bd xs v2 bs C2 p2 r2 d2 n2 w2 s2 hbd hbl hbc hp0 hp1 => ?_)
  obtain ⟨A1, c1, rfl, -⟩ := w2.fl
  have d2' := d1.trans d2
  repeat' (first | simp -implicitDefEqProofs only [zG1,zG2,zG3,zG4,zG5,zG6,zG7,eq_self,resV,rval,X.val,binv,fillL,setR,↓reduceIte,Nat.reduceEqDiff,Nat.reduceAdd,Nat.reduceMul,Nat.reduceLeDiff,Nat.reduceLT,Nat.reduceSub,reduceCtorEq,zGq] | ((with_reducible refine rows_intro (fun _ hb => ?_)); try simp only [set_none, ne_eq] at hb) | ((with_reducible refine new_intro (fun _ hb => ?_)); try simp only [set_none, ne_eq] at hb) | (with_reducible refine draw_same ?_) | ((with_reducible refine gd_split ?_ (fun _ => ?_) (fun _ => ?_)); exact rfl) | ((with_reducible refine td_split ?_ (fun _ => ?_) (fun _ => ?_)); exact rfl) | (with_reducible refine c_split (fun _ => ?_) (fun _ => ?_)))
  refine l4Leaf_ok _ _ _ _ _ (fun A20 c20 C3 l3 => ?_)
  repeat' (first | simp -implicitDefEqProofs only [zG1,zG2,zG3,zG4,zG5,zG6,zG7,eq_self,resV,rval,X.val,binv,fillL,setR,↓reduceIte,Nat.reduceEqDiff,Nat.reduceAdd,Nat.reduceMul,Nat.reduceLeDiff,Nat.reduceLT,Nat.reduceSub,reduceCtorEq,zGq] | ((with_reducible refine rows_intro (fun _ hb => ?_)); try simp only [set_none, ne_eq] at hb) | ((with_reducible refine new_intro (fun _ hb => ?_)); try simp only [set_none, ne_eq] at hb) | (with_reducible refine draw_same ?_) | ((with_reducible refine gd_split ?_ (fun _ => ?_) (fun _ => ?_)); exact rfl) | ((with_reducible refine td_split ?_ (fun _ => ?_) (fun _ => ?_)); exact rfl) | (with_reducible refine c_split (fun _ => ?_) (fun _ => ?_)))
  refine l4Leaf_ok _ _ _ _ _ (fun A21 c21 C4 l4 => ?_)
  repeat' (first | simp -implicitDefEqProofs only [zG1,zG2,zG3,zG4,zG5,zG6,zG7,eq_self,resV,rval,X.val,binv,fillL,setR,↓reduceIte,Nat.reduceEqDiff,Nat.reduceAdd,Nat.reduceMul,Nat.reduceLeDiff,Nat.reduceLT,Nat.reduceSub,reduceCtorEq,zGq] | ((with_reducible refine rows_intro (fun _ hb => ?_)); try simp only [set_none, ne_eq] at hb) | ((with_reducible refine new_intro (fun _ hb => ?_)); try simp only [set_none, ne_eq] at hb) | (with_reducible refine draw_same ?_) | ((with_reducible refine gd_split ?_ (fun _ => ?_) (fun _ => ?_)); exact rfl) | ((with_reducible refine td_split ?_ (fun _ => ?_) (fun _ => ?_)); exact rfl) | (with_reducible refine c_split (fun _ => ?_) (fun _ => ?_)))
  refine l4Both_ok _ _ _ 8 (.mk 13 3 []) (.mk 0 1 []) A20 A21 c20 c21 (fun z C5 tz cz l5 hz kz => ?_)
  have d4' := d2'.then_le (l3.trans l4)
  have hzH := d4'.nov hz
  have hzb : ¬ z = b := fun e => d4'.b1 (e ▸ hz)
  have w4 := w2.trans (l3.trans l4)
  have hzs : ¬ z ∈ bs := fun hm => by
    rcases w4 with ⟨_, _, _, rfl⟩ | ⟨b', cap, _, rfl, _, _, _, hk⟩
    · cases hm
    · simp only [List.mem_cons, List.not_mem_nil, or_false] at hm
      subst hm; exact hk.ne hz
  repeat' (first | simp -implicitDefEqProofs only [zG1,zG2,zG3,zG4,zG5,zG6,zG7,eq_self,resV,rval,X.val,binv,fillL,setR,↓reduceIte,Nat.reduceEqDiff,Nat.reduceAdd,Nat.reduceMul,Nat.reduceLeDiff,Nat.reduceLT,Nat.reduceSub,reduceCtorEq,zGq] | ((with_reducible refine rows_intro (fun _ hb => ?_)); try simp only [set_none, ne_eq] at hb) | ((with_reducible refine new_intro (fun _ hb => ?_)); try simp only [set_none, ne_eq] at hb) | ((with_reducible refine gd_split ?_ (fun _ => ?_) (fun _ => ?_)); exact rfl) | ((with_reducible refine td_split ?_ (fun _ => ?_) (fun _ => ?_)); exact rfl) | (with_reducible refine c_split (fun _ => ?_) (fun _ => ?_)))
  rename_i x9
  have hx9 := hb
  have l6 := (AHeap.le.refl C5).fresh hx9 ⟨mo z, true, 63, 8⟩
  have w5 := w4.trans l5
  have k9 := Kn.same C5 x9 ⟨mo z, true, 63, 8⟩
  have x9b : ¬ x9 = b := fun e => (d4'.then_le l5).b1 (e ▸ hx9)
  have x9s : ¬ x9 ∈ bs := fun hm => by
    rcases w5 with ⟨_, _, _, rfl⟩ | ⟨b', cap, _, rfl, _, _, _, hk⟩
    · cases hm
    · simp only [List.mem_cons, List.not_mem_nil, or_false] at hm
      subst hm; exact hk.ne hx9
  have l26 := l3.trans (l4.trans (l5.trans l6))
  have r9 := r2.le l26
  have d9 := d2'.then_le l26
  have w9 := w2.trans l26
  have kz9 := kz.trans l6
  generalize C5.set x9 ⟨mo z, true, 63, 8⟩ = C9 at *
  have hs0 : StL ((C9.no fun y => y ∈ b :: bs).off H) bd xs := by
    refine s2.le fun y k hy => ?_
    by_cases hm : y ∈ bs
    · rw [no_in (B := fun x => x ∈ bs) hm] at hy; cases hy
    · rw [no_out (B := fun x => x ∈ bs) hm] at hy
      obtain ⟨g1, g2⟩ := off_some hy
      have yb : ¬ y = b := by rintro rfl; exact r1.ne g1
      obtain ⟨k3, g3, g4⟩ := l26 y k g2
      refine ⟨k3, ?_, g4⟩
      rw [off_at (d1.nov g1), no_out]
      · exact g3
      · simp only [List.mem_cons]; exact fun hh => hh.elim yb hm
  generalize hHp : (C9.no fun y => y ∈ b :: bs) = Hp at hs0
  have kP : ∀ {y : Nat} {k : Blk}, Kn C9 y k → ¬ y = b → ¬ y ∈ bs → Kn Hp y k := fun hk e1 e2 => by
    rw [← hHp]
    exact hk.chg Chg.no (by simp only [List.mem_cons]; exact fun hh => hh.elim e1 e2)
  have hs : StL (Hp.off H) (bd ++ [moS]) (xs ++ mo z) := hs0.app (StL.one (mo_v (kn_off hzH (kP kz9 hzb hzs))))
  have s : LS S b H Hp (.slice A1 bd.length c1) bd.length xs bs C9 p2 := by
    refine ⟨?_, r9, d9, w9, n2.le' d1, ?_, ?_, hr.fl⟩
    · rw [← hHp]; exact no_le _ _
    · intro y hy
      rw [← hHp, no_in]
      simp [hy]
    · rw [← hHp, no_in]
      simp
  have k9P := kP k9 x9b x9s
  clear hHp kP
  have c90 := k9P.cell (j := 0) rfl
  have c91 := k9P.cell (j := 1) rfl
  have c92 := k9P.cell (j := 2) rfl
  have c93 := k9P.cell (j := 3) rfl
  have c94 := k9P.cell (j := 4) rfl
  have c95 := k9P.cell (j := 5) rfl
  have c96 := k9P.cell (j := 6) rfl
  have c97 := k9P.cell (j := 7) rfl
  have hbnd : bd.length ≤ 100 := by omega
  clear s2 r1 r2 w2 w4 w5 w9 r9 d9 kz kz9 k9 hs0 l3 l4 l5 l6 l26 d2 d2' d4' n2
  refine draw_at Hp s.lp ?_
  repeat' (first | simp -implicitDefEqProofs only [zG1,zG2,zG3,zG4,zG5,zG6,zG7,eq_self,resV,rval,X.val,binv,fillL,setR,↓reduceIte,Nat.reduceEqDiff,Nat.reduceAdd,Nat.reduceMul,Nat.reduceLeDiff,Nat.reduceLT,Nat.reduceSub,reduceCtorEq,zGq, c90, c91, c92, c93, c94, c95, c96, c97, adr_lit, Nat.zero_add])
  refine ⟨?_, ?_, ?_⟩
  · refine s.leaf fun A25 c25 C25 l s => ?_
    repeat' (first | simp -implicitDefEqProofs only [zG1,zG2,zG3,zG4,zG5,zG6,zG7,eq_self,resV,rval,X.val,binv,fillL,setR,↓reduceIte,Nat.reduceEqDiff,Nat.reduceAdd,Nat.reduceMul,Nat.reduceLeDiff,Nat.reduceLT,Nat.reduceSub,reduceCtorEq,zGq, s.lp])
    refine ⟨?_, ?_, ?_⟩
    · refine pickK_ok _ _ s.r 3 (by omega) (by omega) (by decide) (fun u C27 r27 d27 hu0 hu1 => ?_)
      have s := s.pick r27 d27
      have w3 := pl1 hu0 hu1
      repeat' (first | simp -implicitDefEqProofs only [zG1,zG2,zG3,zG4,zG5,zG6,zG7,eq_self,resV,rval,X.val,binv,fillL,setR,↓reduceIte,Nat.reduceEqDiff,Nat.reduceAdd,Nat.reduceMul,Nat.reduceLeDiff,Nat.reduceLT,Nat.reduceSub,reduceCtorEq,zGq, s.lp, w3])
      refine ⟨?_, ?_, ?_⟩
      · refine s.leaf fun A29 c29 C29 l s => ?_
        repeat' (first | simp -implicitDefEqProofs only [zG1,zG2,zG3,zG4,zG5,zG6,zG7,eq_self,resV,rval,X.val,binv,fillL,setR,↓reduceIte,Nat.reduceEqDiff,Nat.reduceAdd,Nat.reduceMul,Nat.reduceLeDiff,Nat.reduceLT,Nat.reduceSub,reduceCtorEq,zGq, s.lp])
        refine ⟨?_, ?_, ?_⟩
        · refine l4Both_ok _ _ _ 5 (.mk 13 3 []) (.mk 0 (1 + u) []) A25 A29 c25 c29 (fun z30 C30 t30 cc30 l hz30 k30 => ?_)
          have h30 := s.d.nov hz30
          have o30 := s.off hz30
          have s := s.le l
          repeat' (first | simp -implicitDefEqProofs only [zG1,zG2,zG3,zG4,zG5,zG6,zG7,eq_self,resV,rval,X.val,binv,fillL,setR,↓reduceIte,Nat.reduceEqDiff,Nat.reduceAdd,Nat.reduceMul,Nat.reduceLeDiff,Nat.reduceLT,Nat.reduceSub,reduceCtorEq,zGq, s.lp])
          refine ⟨?_, ?_⟩
          · refine s.lit fun y33 C33 n33 l s k33 => ?_
            have k30 := k30.trans l
            repeat' (first | simp -implicitDefEqProofs only [zG1,zG2,zG3,zG4,zG5,zG6,zG7,eq_self,resV,rval,X.val,binv,fillL,setR,↓reduceIte,Nat.reduceEqDiff,Nat.reduceAdd,Nat.reduceMul,Nat.reduceLeDiff,Nat.reduceLT,Nat.reduceSub,reduceCtorEq,zGq, s.lp])
            refine ⟨?_, ?_⟩
            · refine s.more k33 (by omega) rfl fun A34 c34 C34 bs34 hc hn s => ?_
              have k30 := k30.chg hc o30
              repeat' (first | simp -implicitDefEqProofs only [zG1,zG2,zG3,zG4,zG5,zG6,zG7,eq_self,resV,rval,X.val,binv,fillL,setR,↓reduceIte,Nat.reduceEqDiff,Nat.reduceAdd,Nat.reduceMul,Nat.reduceLeDiff,Nat.reduceLT,Nat.reduceSub,reduceCtorEq,zGq, s.lp])
              refine s.new fun y10 C10 hy10 h10 p10 o10 n10 l s k10 => ?_
              have x30 : ¬ z30 = y10 := fun e => k30.ne (e ▸ hy10)
              have k30 := k30.trans l
              repeat' (first | simp -implicitDefEqProofs only [zG1,zG2,zG3,zG4,zG5,zG6,zG7,eq_self,resV,rval,X.val,binv,fillL,setR,↓reduceIte,Nat.reduceEqDiff,Nat.reduceAdd,Nat.reduceMul,Nat.reduceLeDiff,Nat.reduceLT,Nat.reduceSub,reduceCtorEq,zGq, s.lp])
              refine s.put k10 h10 p10 o10 (by simp [ocI, ocS]) fun C40 hc s cs => ?_
              have k30 := k30.chg hc (by simpa using x30)
              repeat' (first | simp -implicitDefEqProofs only [zG1,zG2,zG3,zG4,zG5,zG6,zG7,eq_self,resV,rval,X.val,binv,fillL,setR,↓reduceIte,Nat.reduceEqDiff,Nat.reduceAdd,Nat.reduceMul,Nat.reduceLeDiff,Nat.reduceLT,Nat.reduceSub,reduceCtorEq,zGq, s.lp, cs] | (with_reducible refine draw_at C40 (.refl _) ?_) | (with_reducible refine l4Leaf_ok _ _ _ _ _ (fun A37 c37 C37 l37 => ?_)) | (with_reducible refine ⟨l37, ?_⟩) | (with_reducible refine rows_intro (fun y hy => ?_)))
              exact ⟨l37.trans ((AHeap.le.refl C37).fresh hy _), ret_same (finL (A37 := A37) (c37 := c37) h (s.le l37) hs (k30.trans l37) h30 hbd (by omega) ⟨hu0, by omega⟩ (by omega) (by omega) hy)⟩
            · refine s.new fun y10 C10 hy10 h10 p10 o10 n10 l s k10 => ?_
              have x30 : ¬ z30 = y10 := fun e => k30.ne (e ▸ hy10)
              have k33 := k33.trans l
              have k30 := k30.trans l
              repeat' (first | simp -implicitDefEqProofs only [zG1,zG2,zG3,zG4,zG5,zG6,zG7,eq_self,resV,rval,X.val,binv,fillL,setR,↓reduceIte,Nat.reduceEqDiff,Nat.reduceAdd,Nat.reduceMul,Nat.reduceLeDiff,Nat.reduceLT,Nat.reduceSub,reduceCtorEq,zGq, s.lp])
              refine s.more k33 (by omega) rfl fun A34 c34 C34 bs34 hc hn s => ?_
              have o34 := off_app k10 o10 hn
              have k10 := k10.chg hc o10
              have o10 := o34
              have k30 := k30.chg hc o30
              repeat' (first | simp -implicitDefEqProofs only [zG1,zG2,zG3,zG4,zG5,zG6,zG7,eq_self,resV,rval,X.val,binv,fillL,setR,↓reduceIte,Nat.reduceEqDiff,Nat.reduceAdd,Nat.reduceMul,Nat.reduceLeDiff,Nat.reduceLT,Nat.reduceSub,reduceCtorEq,zGq, s.lp])
              refine s.put k10 h10 p10 o10 (by simp [ocI, ocS]) fun C40 hc s cs => ?_
              have k30 := k30.chg hc (by simpa using x30)
              repeat' (first | simp -implicitDefEqProofs only [zG1,zG2,zG3,zG4,zG5,zG6,zG7,eq_self,resV,rval,X.val,binv,fillL,setR,↓reduceIte,Nat.reduceEqDiff,Nat.reduceAdd,Nat.reduceMul,Nat.reduceLeDiff,Nat.reduceLT,Nat.reduceSub,reduceCtorEq,zGq, s.lp, cs] | (with_reducible refine draw_at C40 (.refl _) ?_) | (with_reducible refine l4Leaf_ok _ _ _ _ _ (fun A37 c37 C37 l37 => ?_)) | (with_reducible refine ⟨l37, ?_⟩) | (with_reducible refine rows_intro (fun y hy => ?_)))
              exact ⟨l37.trans ((AHeap.le.refl C37).fresh hy _), ret_same (finL (A37 := A37) (c37 := c37) h (s.le l37) hs (k30.trans l37) h30 hbd (by omega) ⟨hu0, by omega⟩ (by omega) (by omega) hy)⟩
          · refine s.new fun y10 C10 hy10 h10 p10 o10 n10 l s k10 => ?_
            have x30 : ¬ z30 = y10 := fun e => k30.ne (e ▸ hy10)
            have k30 := k30.trans l
            repeat' (first | simp -implicitDefEqProofs only [zG1,zG2,zG3,zG4,zG5,zG6,zG7,eq_self,resV,rval,X.val,binv,fillL,setR,↓reduceIte,Nat.reduceEqDiff,Nat.reduceAdd,Nat.reduceMul,Nat.reduceLeDiff,Nat.reduceLT,Nat.reduceSub,reduceCtorEq,zGq, s.lp])
            refine s.lit fun y33 C33 n33 l s k33 => ?_
            have k10 := k10.trans l
            have k30 := k30.trans l
            repeat' (first | simp -implicitDefEqProofs only [zG1,zG2,zG3,zG4,zG5,zG6,zG7,eq_self,resV,rval,X.val,binv,fillL,setR,↓reduceIte,Nat.reduceEqDiff,Nat.reduceAdd,Nat.reduceMul,Nat.reduceLeDiff,Nat.reduceLT,Nat.reduceSub,reduceCtorEq,zGq, s.lp])
            refine s.more k33 (by omega) rfl fun A34 c34 C34 bs34 hc hn s => ?_
            have o34 := off_app k10 o10 hn
            have k10 := k10.chg hc o10
            have o10 := o34
            have k30 := k30.chg hc o30
            repeat' (first | simp -implicitDefEqProofs only [zG1,zG2,zG3,zG4,zG5,zG6,zG7,eq_self,resV,rval,X.val,binv,fillL,setR,↓reduceIte,Nat.reduceEqDiff,Nat.reduceAdd,Nat.reduceMul,Nat.reduceLeDiff,Nat.reduceLT,Nat.reduceSub,reduceCtorEq,zGq, s.lp])
            refine s.put k10 h10 p10 o10 (by simp [ocI, ocS]) fun C40 hc s cs => ?_
            have k30 := k30.chg hc (by simpa using x30)
            repeat' (first | simp -implicitDefEqProofs only [zG1,zG2,zG3,zG4,zG5,zG6,zG7,eq_self,resV,rval,X.val,binv,fillL,setR,↓reduceIte,Nat.reduceEqDiff,Nat.reduceAdd,Nat.reduceMul,Nat.reduceLeDiff,Nat.reduceLT,Nat.reduceSub,reduceCtorEq,zGq, s.lp, cs] | (with_reducible refine draw_at C40 (.refl _) ?_) | (with_reducible refine l4Leaf_ok _ _ _ _ _ (fun A37 c37 C37 l37 => ?_)) | (with_reducible refine ⟨l37, ?_⟩) | (with_reducible refine rows_intro (fun y hy => ?_)))
            exact ⟨l37.trans ((AHeap.le.refl C37).fresh hy _), ret_same (finL (A37 := A37) (c37 := c37) h (s.le l37) hs (k30.trans l37) h30 hbd (by omega) ⟨hu0, by omega⟩ (by omega) (by omega) hy)⟩
        · refine s.lit fun y33 C33 n33 l s k33 => ?_
          repeat' (first | simp -implicitDefEqProofs only [zG1,zG2,zG3,zG4,zG5,zG6,zG7,eq_self,resV,rval,X.val,binv,fillL,setR,↓reduceIte,Nat.reduceEqDiff,Nat.reduceAdd,Nat.reduceMul,Nat.reduceLeDiff,Nat.reduceLT,Nat.reduceSub,reduceCtorEq,zGq, s.lp])
          refine ⟨?_, ?_⟩
          · refine l4Both_ok _ _ _ 5 (.mk 13 3 []) (.mk 0 (1 + u) []) A25 A29 c25 c29 (fun z30 C30 t30 cc30 l hz30 k30 => ?_)
            have h30 := s.d.nov hz30
            have o30 := s.off hz30
            have s := s.le l
            have k33 := k33.trans l
            repeat' (first | simp -implicitDefEqProofs only [zG1,zG2,zG3,zG4,zG5,zG6,zG7,eq_self,resV,rval,X.val,binv,fillL,setR,↓reduceIte,Nat.reduceEqDiff,Nat.reduceAdd,Nat.reduceMul,Nat.reduceLeDiff,Nat.reduceLT,Nat.reduceSub,reduceCtorEq,zGq, s.lp])
            refine ⟨?_, ?_⟩
            · refine s.more k33 (by omega) rfl fun A34 c34 C34 bs34 hc hn s => ?_
              have k30 := k30.chg hc o30
              repeat' (first | simp -implicitDefEqProofs only [zG1,zG2,zG3,zG4,zG5,zG6,zG7,eq_self,resV,rval,X.val,binv,fillL,setR,↓reduceIte,Nat.reduceEqDiff,Nat.reduceAdd,Nat.reduceMul,Nat.reduceLeDiff,Nat.reduceLT,Nat.reduceSub,reduceCtorEq,zGq, s.lp])
              refine s.new fun y10 C10 hy10 h10 p10 o10 n10 l s k10 => ?_
              have x30 : ¬ z30 = y10 := fun e => k30.ne (e ▸ hy10)
              have k30 := k30.trans l
              repeat' (first | simp -implicitDefEqProofs only [zG1,zG2,zG3,zG4,zG5,zG6,zG7,eq_self,resV,rval,X.val,binv,fillL,setR,↓reduceIte,Nat.reduceEqDiff,Nat.reduceAdd,Nat.reduceMul,Nat.reduceLeDiff,Nat.reduceLT,Nat.reduceSub,reduceCtorEq,zGq, s.lp])
              refine s.put k10 h10 p10 o10 (by simp [ocI, ocS]) fun C40 hc s cs => ?_
              have k30 := k30.chg hc (by simpa using x30)
              repeat' (first | simp -implicitDefEqProofs only [zG1,zG2,zG3,zG4,zG5,zG6,zG7,eq_self,resV,rval,X.val,binv,fillL,setR,↓reduceIte,Nat.reduceEqDiff,Nat.reduceAdd,Nat.reduceMul,Nat.reduceLeDiff,Nat.reduceLT,Nat.reduceSub,reduceCtorEq,zGq, s.lp, cs] | (with_reducible refine draw_at C40 (.refl _) ?_) | (with_reducible refine l4Leaf_ok _ _ _ _ _ (fun A37 c37 C37 l37 => ?_)) | (with_reducible refine ⟨l37, ?_⟩) | (with_reducible refine rows_intro (fun y hy => ?_)))
              exact ⟨l37.trans ((AHeap.le.refl C37).fresh hy _), ret_same (finL (A37 := A37) (c37 := c37) h (s.le l37) hs (k30.trans l37) h30 hbd (by omega) ⟨hu0, by omega⟩ (by omega) (by omega) hy)⟩
            · refine s.new fun y10 C10 hy10 h10 p10 o10 n10 l s k10 => ?_
              have x30 : ¬ z30 = y10 := fun e => k30.ne (e ▸ hy10)
              have k33 := k33.trans l
              have k30 := k30.trans l
              repeat' (first | simp -implicitDefEqProofs only [zG1,zG2,zG3,zG4,zG5,zG6,zG7,eq_self,resV,rval,X.val,binv,fillL,setR,↓reduceIte,Nat.reduceEqDiff,Nat.reduceAdd,Nat.reduceMul,Nat.reduceLeDiff,Nat.reduceLT,Nat.reduceSub,reduceCtorEq,zGq, s.lp])
              refine s.more k33 (by omega) rfl fun A34 c34 C34 bs34 hc hn s => ?_
              have o34 := off_app k10 o10 hn
              have k10 := k10.chg hc o10
              have o10 := o34
              have k30 := k30.chg hc o30
              repeat' (first | simp -implicitDefEqProofs only [zG1,zG2,zG3,zG4,zG5,zG6,zG7,eq_self,resV,rval,X.val,binv,fillL,setR,↓reduceIte,Nat.reduceEqDiff,Nat.reduceAdd,Nat.reduceMul,Nat.reduceLeDiff,Nat.reduceLT,Nat.reduceSub,reduceCtorEq,zGq, s.lp])
              refine s.put k10 h10 p10 o10 (by simp [ocI, ocS]) fun C40 hc s cs => ?_
              have k30 := k30.chg hc (by simpa using x30)
              repeat' (first | simp -implicitDefEqProofs only [zG1,zG2,zG3,zG4,zG5,zG6,zG7,eq_self,resV,rval,X.val,binv,fillL,setR,↓reduceIte,Nat.reduceEqDiff,Nat.reduceAdd,Nat.reduceMul,Nat.reduceLeDiff,Nat.reduceLT,Nat.reduceSub,reduceCtorEq,zGq, s.lp, cs] | (with_reducible refine draw_at C40 (.refl _) ?_) | (with_reducible refine l4Leaf_ok _ _ _ _ _ (fun A37 c37 C37 l37 => ?_)) | (with_reducible refine ⟨l37, ?_⟩) | (with_reducible refine rows_intro (fun y hy => ?_)))
              exact ⟨l37.trans ((AHeap.le.refl C37).fresh hy _), ret_same (finL (A37 := A37) (c37 := c37) h (s.le l37) hs (k30.trans l37) h30 hbd (by omega) ⟨hu0, by omega⟩ (by omega) (by omega) hy)⟩
          · refine s.new fun y10 C10 hy10 h10 p10 o10 n10 l s k10 => ?_
            have k33 := k33.trans l
            repeat' (first | simp -implicitDefEqProofs only [zG1,zG2,zG3,zG4,zG5,zG6,zG7,eq_self,resV,rval,X.val,binv,fillL,setR,↓reduceIte,Nat.reduceEqDiff,Nat.reduceAdd,Nat.reduceMul,Nat.reduceLeDiff,Nat.reduceLT,Nat.reduceSub,reduceCtorEq,zGq, s.lp])
            refine l4Both_ok _ _ _ 5 (.mk 13 3 []) (.mk 0 (1 + u) []) A25 A29 c25 c29 (fun z30 C30 t30 cc30 l hz30 k30 => ?_)
            have h30 := s.d.nov hz30
            have o30 := s.off hz30
            have s := s.le l
            have x30 : ¬ z30 = y10 := fun e => k10.ne (e ▸ hz30)
            have k33 := k33.trans l
            have k10 := k10.trans l
            repeat' (first | simp -implicitDefEqProofs only [zG1,zG2,zG3,zG4,zG5,zG6,zG7,eq_self,resV,rval,X.val,binv,fillL,setR,↓reduceIte,Nat.reduceEqDiff,Nat.reduceAdd,Nat.reduceMul,Nat.reduceLeDiff,Nat.reduceLT,Nat.reduceSub,reduceCtorEq,zGq, s.lp])
            refine s.more k33 (by omega) rfl fun A34 c34 C34 bs34 hc hn s => ?_
            have o34 := off_app k10 o10 hn
            have k10 := k10.chg hc o10
            have o10 := o34
            have k30 := k30.chg hc o30
            repeat' (first | simp -implicitDefEqProofs only [zG1,zG2,zG3,zG4,zG5,zG6,zG7,eq_self,resV,rval,X.val,binv,fillL,setR,↓reduceIte,Nat.reduceEqDiff,Nat.reduceAdd,Nat.reduceMul,Nat.reduceLeDiff,Nat.reduceLT,Nat.reduceSub,reduceCtorEq,zGq, s.lp])
            refine s.put k10 h10 p10 o10 (by simp [ocI, ocS]) fun C40 hc s cs => ?_
            have k30 := k30.chg hc (by simpa using x30)
            repeat' (first | simp -implicitDefEqProofs only [zG1,zG2,zG3,zG4,zG5,zG6,zG7,eq_self,resV,rval,X.val,binv,fillL,setR,↓reduceIte,Nat.reduceEqDiff,Nat.reduceAdd,Nat.reduceMul,Nat.reduceLeDiff,Nat.reduceLT,Nat.reduceSub,reduceCtorEq,zGq, s.lp, cs] | (with_reducible refine draw_at C40 (.refl _) ?_) | (with_reducible refine l4Leaf_ok _ _ _ _ _ (fun A37 c37 C37 l37 => ?_)) | (with_reducible refine ⟨l37, ?_⟩) | (with_reducible refine rows_intro (fun y hy => ?_)))
            exact ⟨l37.trans ((AHeap.le.refl C37).fresh hy _), ret_same (finL (A37 := A37) (c37 := c37) h (s.le l37) hs (k30.trans l37) h30 hbd (by omega) ⟨hu0, by omega⟩ (by omega) (by omega) hy)⟩
        · refine s.new fun y10 C10 hy10 h10 p10 o10 n10 l s k10 => ?_
          repeat' (first | simp -implicitDefEqProofs only [zG1,zG2,zG3,zG4,zG5,zG6,zG7,eq_self,resV,rval,X.val,binv,fillL,setR,↓reduceIte,Nat.reduceEqDiff,Nat.reduceAdd,Nat.reduceMul,Nat.reduceLeDiff,Nat.reduceLT,Nat.reduceSub,reduceCtorEq,zGq, s.lp])
          refine ⟨?_, ?_⟩
          · refine l4Both_ok _ _ _ 5 (.mk 13 3 []) (.mk 0 (1 + u) []) A25 A29 c25 c29 (fun z30 C30 t30 cc30 l hz30 k30 => ?_)
            have h30 := s.d.nov hz30
            have o30 := s.off hz30
            have s := s.le l
            have x30 : ¬ z30 = y10 := fun e => k10.ne (e ▸ hz30)
            have k10 := k10.trans l
            repeat' (first | simp -implicitDefEqProofs only [zG1,zG2,zG3,zG4,zG5,zG6,zG7,eq_self,resV,rval,X.val,binv,fillL,setR,↓reduceIte,Nat.reduceEqDiff,Nat.reduceAdd,Nat.reduceMul,Nat.reduceLeDiff,Nat.reduceLT,Nat.reduceSub,reduceCtorEq,zGq, s.lp])
            refine s.lit fun y33 C33 n33 l s k33 => ?_
            have k10 := k10.trans l
            have k30 := k30.trans l
            repeat' (first | simp -implicitDefEqProofs only [zG1,zG2,zG3,zG4,zG5,zG6,zG7,eq_self,resV,rval,X.val,binv,fillL,setR,↓reduceIte,Nat.reduceEqDiff,Nat.reduceAdd,Nat.reduceMul,Nat.reduceLeDiff,Nat.reduceLT,Nat.reduceSub,reduceCtorEq,zGq, s.lp])
            refine s.more k33 (by omega) rfl fun A34 c34 C34 bs34 hc hn s => ?_
            have o34 := off_app k10 o10 hn
            have k10 := k10.chg hc o10
            have o10 := o34
            have k30 := k30.chg hc o30
            repeat' (first | simp -implicitDefEqProofs only [zG1,zG2,zG3,zG4,zG5,zG6,zG7,eq_self,resV,rval,X.val,binv,fillL,setR,↓reduceIte,Nat.reduceEqDiff,Nat.reduceAdd,Nat.reduceMul,Nat.reduceLeDiff,Nat.reduceLT,Nat.reduceSub,reduceCtorEq,zGq, s.lp])
            refine s.put k10 h10 p10 o10 (by simp [ocI, ocS]) fun C40 hc s cs => ?_
            have k30 := k30.chg hc (by simpa using x30)
            repeat' (first | simp -implicitDefEqProofs only [zG1,zG2,zG3,zG4,zG5,zG6,zG7,eq_self,resV,rval,X.val,binv,fillL,setR,↓reduceIte,Nat.reduceEqDiff,Nat.reduceAdd,Nat.reduceMul,Nat.reduceLeDiff,Nat.reduceLT,Nat.reduceSub,reduceCtorEq,zGq, s.lp, cs] | (with_reducible refine draw_at C40 (.refl _) ?_) | (with_reducible refine l4Leaf_ok _ _ _ _ _ (fun A37 c37 C37 l37 => ?_)) | (with_reducible refine ⟨l37, ?_⟩) | (with_reducible refine rows_intro (fun y hy => ?_)))
            exact ⟨l37.trans ((AHeap.le.refl C37).fresh hy _), ret_same (finL (A37 := A37) (c37 := c37) h (s.le l37) hs (k30.trans l37) h30 hbd (by omega) ⟨hu0, by omega⟩ (by omega) (by omega) hy)⟩
          · refine s.lit fun y33 C33 n33 l s k33 => ?_
            have k10 := k10.trans l
            repeat' (first | simp -implicitDefEqProofs only [zG1,zG2,zG3,zG4,zG5,zG6,zG7,eq_self,resV,rval,X.val,binv,fillL,setR,↓reduceIte,Nat.reduceEqDiff,Nat.reduceAdd,Nat.reduceMul,Nat.reduceLeDiff,Nat.reduceLT,Nat.reduceSub,reduceCtorEq,zGq, s.lp])
            refine l4Both_ok _ _ _ 5 (.mk 13 3 []) (.mk 0 (1 + u) []) A25 A29 c25 c29 (fun z30 C30 t30 cc30 l hz30 k30 => ?_)
            have h30 := s.d.nov hz30
            have o30 := s.off hz30
            have s := s.le l
            have x30 : ¬ z30 = y10 := fun e => k10.ne (e ▸ hz30)
            have k33 := k33.trans l
            have k10 := k10.trans l
            repeat' (first | simp -implicitDefEqProofs only [zG1,zG2,zG3,zG4,zG5,zG6,zG7,eq_self,resV,rval,X.val,binv,fillL,setR,↓reduceIte,Nat.reduceEqDiff,Nat.reduceAdd,Nat.reduceMul,Nat.reduceLeDiff,Nat.reduceLT,Nat.reduceSub,reduceCtorEq,zGq, s.lp])
            refine s.more k33 (by omega) rfl fun A34 c34 C34 bs34 hc hn s => ?_
            have o34 := off_app k10 o10 hn
            have k10 := k10.chg hc o10
            have o10 := o34
            have k30 := k30.chg hc o30
            repeat' (first | simp -implicitDefEqProofs only [zG1,zG2,zG3,zG4,zG5,zG6,zG7,eq_self,resV,rval,X.val,binv,fillL,setR,↓reduceIte,Nat.reduceEqDiff,Nat.reduceAdd,Nat.reduceMul,Nat.reduceLeDiff,Nat.reduceLT,Nat.reduceSub,reduceCtorEq,zGq, s.lp])
            refine s.put k10 h10 p10 o10 (by simp [ocI, ocS]) fun C40 hc s cs => ?_
            have k30 := k30.chg hc (by simpa using x30)
            repeat' (first | simp -implicitDefEqProofs only [zG1,zG2,zG3,zG4,zG5,zG6,zG7,eq_self,resV,rval,X.val,binv,fillL,setR,↓reduceIte,Nat.reduceEqDiff,Nat.reduceAdd,Nat.reduceMul,Nat.reduceLeDiff,Nat.reduceLT,Nat.reduceSub,reduceCtorEq,zGq, s.lp, cs] | (with_reducible refine draw_at C40 (.refl _) ?_) | (with_reducible refine l4Leaf_ok _ _ _ _ _ (fun A37 c37 C37 l37 => ?_)) | (with_reducible refine ⟨l37, ?_⟩) | (with_reducible refine rows_intro (fun y hy => ?_)))
            exact ⟨l37.trans ((AHeap.le.refl C37).fresh hy _), ret_same (finL (A37 := A37) (c37 := c37) h (s.le l37) hs (k30.trans l37) h30 hbd (by omega) ⟨hu0, by omega⟩ (by omega) (by omega) hy)⟩
      · refine s.lit fun y33 C33 n33 l s k33 => ?_
        repeat' (first | simp -implicitDefEqProofs only [zG1,zG2,zG3,zG4,zG5,zG6,zG7,eq_self,resV,rval,X.val,binv,fillL,setR,↓reduceIte,Nat.reduceEqDiff,Nat.reduceAdd,Nat.reduceMul,Nat.reduceLeDiff,Nat.reduceLT,Nat.reduceSub,reduceCtorEq,zGq, s.lp])
        refine ⟨?_, ?_⟩
        · refine s.leaf fun A29 c29 C29 l s => ?_
          have k33 := k33.trans l
          repeat' (first | simp -implicitDefEqProofs only [zG1,zG2,zG3,zG4,zG5,zG6,zG7,eq_self,resV,rval,X.val,binv,fillL,setR,↓reduceIte,Nat.reduceEqDiff,Nat.reduceAdd,Nat.reduceMul,Nat.reduceLeDiff,Nat.reduceLT,Nat.reduceSub,reduceCtorEq,zGq, s.lp])
          refine ⟨?_, ?_⟩
          · refine l4Both_ok _ _ _ 5 (.mk 13 3 []) (.mk 0 (1 + u) []) A25 A29 c25 c29 (fun z30 C30 t30 cc30 l hz30 k30 => ?_)
            have h30 := s.d.nov hz30
            have o30 := s.off hz30
            have s := s.le l
            have k33 := k33.trans l
            repeat' (first | simp -implicitDefEqProofs only [zG1,zG2,zG3,zG4,zG5,zG6,zG7,eq_self,resV,rval,X.val,binv,fillL,setR,↓reduceIte,Nat.reduceEqDiff,Nat.reduceAdd,Nat.reduceMul,Nat.reduceLeDiff,Nat.reduceLT,Nat.reduceSub,reduceCtorEq,zGq, s.lp])
            refine ⟨?_, ?_⟩
            · refine s.more k33 (by omega) rfl fun A34 c34 C34 bs34 hc hn s => ?_
              have k30 := k30.chg hc o30
              repeat' (first | simp -implicitDefEqProofs only [zG1,zG2,zG3,zG4,zG5,zG6,zG7,eq_self,resV,rval,X.val,binv,fillL,setR,↓reduceIte,Nat.reduceEqDiff,Nat.reduceAdd,Nat.reduceMul,Nat.reduceLeDiff,Nat.reduceLT,Nat.reduceSub,reduceCtorEq,zGq, s.lp])
              refine s.new fun y10 C10 hy10 h10 p10 o10 n10 l s k10 => ?_
              have x30 : ¬ z30 = y10 := fun e => k30.ne (e ▸ hy10)
              have k30 := k30.trans l
              repeat' (first | simp -implicitDefEqProofs only [zG1,zG2,zG3,zG4,zG5,zG6,zG7,eq_self,resV,rval,X.val,binv,fillL,setR,↓reduceIte,Nat.reduceEqDiff,Nat.reduceAdd,Nat.reduceMul,Nat.reduceLeDiff,Nat.reduceLT,Nat.reduceSub,reduceCtorEq,zGq, s.lp])
              refine s.put k10 h10 p10 o10 (by simp [ocI, ocS]) fun C40 hc s cs => ?_
              have k30 := k30.chg hc (by simpa using x30)
              repeat' (first | simp -implicitDefEqProofs only [zG1,zG2,zG3,zG4,zG5,zG6,zG7,eq_self,resV,rval,X.val,binv,fillL,setR,↓reduceIte,Nat.reduceEqDiff,Nat.reduceAdd,Nat.reduceMul,Nat.reduceLeDiff,Nat.reduceLT,Nat.reduceSub,reduceCtorEq,zGq, s.lp, cs] | (with_reducible refine draw_at C40 (.refl _) ?_) | (with_reducible refine l4Leaf_ok _ _ _ _ _ (fun A37 c37 C37 l37 => ?_)) | (with_reducible refine ⟨l37, ?_⟩) | (with_reducible refine rows_intro (fun y hy => ?_)))
              exact ⟨l37.trans ((AHeap.le.refl C37).fresh hy _), ret_same (finL (A37 := A37) (c37 := c37) h (s.le l37) hs (k30.trans l37) h30 hbd (by omega) ⟨hu0, by omega⟩ (by omega) (by omega) hy)⟩
            · refine s.new fun y10 C10 hy10 h10 p10 o10 n10 l s k10 => ?_
              have x30 : ¬ z30 = y10 := fun e => k30.ne (e ▸ hy10)
              have k33 := k33.trans l
              have k30 := k30.trans l
              repeat' (first | simp -implicitDefEqProofs only [zG1,zG2,zG3,zG4,zG5,zG6,zG7,eq_self,resV,rval,X.val,binv,fillL,setR,↓reduceIte,Nat.reduceEqDiff,Nat.reduceAdd,Nat.reduceMul,Nat.reduceLeDiff,Nat.reduceLT,Nat.reduceSub,reduceCtorEq,zGq, s.lp])
              refine s.more k33 (by omega) rfl fun A34 c34 C34 bs34 hc hn s => ?_
              have o34 := off_app k10 o10 hn
              have k10 := k10.chg hc o10
              have o10 := o34
              have k30 := k30.chg hc o30
              repeat' (first | simp -implicitDefEqProofs only [zG1,zG2,zG3,zG4,zG5,zG6,zG7,eq_self,resV,rval,X.val,binv,fillL,setR,↓reduceIte,Nat.reduceEqDiff,Nat.reduceAdd,Nat.reduceMul,Nat.reduceLeDiff,Nat.reduceLT,Nat.reduceSub,reduceCtorEq,zGq, s.lp])
              refine s.put k10 h10 p10 o10 (by simp [ocI, ocS]) fun C40 hc s cs => ?_
              have k30 := k30.chg hc (by simpa using x30)
              repeat' (first | simp -implicitDefEqProofs only [zG1,zG2,zG3,zG4,zG5,zG6,zG7,eq_self,resV,rval,X.val,binv,fillL,setR,↓reduceIte,Nat.reduceEqDiff,Nat.reduceAdd,Nat.reduceMul,Nat.reduceLeDiff,Nat.reduceLT,Nat.reduceSub,reduceCtorEq,zGq, s.lp, cs] | (with_reducible refine draw_at C40 (.refl _) ?_) | (with_reducible refine l4Leaf_ok _ _ _ _ _ (fun A37 c37 C37 l37 => ?_)) | (with_reducible refine ⟨l37, ?_⟩) | (with_reducible refine rows_intro (fun y hy => ?_)))
              exact ⟨l37.trans ((AHeap.le.refl C37).fresh hy _), ret_same (finL (A37 := A37) (c37 := c37) h (s.le l37) hs (k30.trans l37) h30 hbd (by omega) ⟨hu0, by omega⟩ (by omega) (by omega) hy)⟩
          · refine s.new fun y10 C10 hy10 h10 p10 o10 n10 l s k10 => ?_
            have k33 := k33.trans l
            repeat' (first | simp -implicitDefEqProofs only [zG1,zG2,zG3,zG4,zG5,zG6,zG7,eq_self,resV,rval,X.val,binv,fillL,setR,↓reduceIte,Nat.reduceEqDiff,Nat.reduceAdd,Nat.reduceMul,Nat.reduceLeDiff,Nat.reduceLT,Nat.reduceSub,reduceCtorEq,zGq, s.lp])
            refine l4Both_ok _ _ _ 5 (.mk 13 3 []) (.mk 0 (1 + u) []) A25 A29 c25 c29 (fun z30 C30 t30 cc30 l hz30 k30 => ?_)
            have h30 := s.d.nov hz30
            have o30 := s.off hz30
            have s := s.le l
            have x30 : ¬ z30 = y10 := fun e => k10.ne (e ▸ hz30)
            have k33 := k33.trans l
            have k10 := k10.trans l
            repeat' (first | simp -implicitDefEqProofs only [zG1,zG2,zG3,zG4,zG5,zG6,zG7,eq_self,resV,rval,X.val,binv,fillL,setR,↓reduceIte,Nat.reduceEqDiff,Nat.reduceAdd,Nat.reduceMul,Nat.reduceLeDiff,Nat.reduceLT,Nat.reduceSub,reduceCtorEq,zGq, s.lp])
            refine s.more k33 (by omega) rfl fun A34 c34 C34 bs34 hc hn s => ?_
            have o34 := off_app k10 o10 hn
            have k10 := k10.chg hc o10
            have o10 := o34
            have k30 := k30.chg hc o30
            repeat' (first | simp -implicitDefEqProofs only [zG1,zG2,zG3,zG4,zG5,zG6,zG7,eq_self,resV,rval,X.val,binv,fillL,setR,↓reduceIte,Nat.reduceEqDiff,Nat.reduceAdd,Nat.reduceMul,Nat.reduceLeDiff,Nat.reduceLT,Nat.reduceSub,reduceCtorEq,zGq, s.lp])
            refine s.put k10 h10 p10 o10 (by simp [ocI, ocS]) fun C40 hc s cs => ?_
            have k30 := k30.chg hc (by simpa using x30)
            repeat' (first | simp -implicitDefEqProofs only [zG1,zG2,zG3,zG4,zG5,zG6,zG7,eq_self,resV,rval,X.val,binv,fillL,setR,↓reduceIte,Nat.reduceEqDiff,Nat.reduceAdd,Nat.reduceMul,Nat.reduceLeDiff,Nat.reduceLT,Nat.reduceSub,reduceCtorEq,zGq, s.lp, cs] | (with_reducible refine draw_at C40 (.refl _) ?_) | (with_reducible refine l4Leaf_ok _ _ _ _ _ (fun A37 c37 C37 l37 => ?_)) | (with_reducible refine ⟨l37, ?_⟩) | (with_reducible refine rows_intro (fun y hy => ?_)))
            exact ⟨l37.trans ((AHeap.le.refl C37).fresh hy _), ret_same (finL (A37 := A37) (c37 := c37) h (s.le l37) hs (k30.trans l37) h30 hbd (by omega) ⟨hu0, by omega⟩ (by omega) (by omega) hy)⟩
        · refine s.new fun y10 C10 hy10 h10 p10 o10 n10 l s k10 => ?_
          have k33 := k33.trans l
          repeat' (first | simp -implicitDefEqProofs only [zG1,zG2,zG3,zG4,zG5,zG6,zG7,eq_self,resV,rval,X.val,binv,fillL,setR,↓reduceIte,Nat.reduceEqDiff,Nat.reduceAdd,Nat.reduceMul,Nat.reduceLeDiff,Nat.reduceLT,Nat.reduceSub,reduceCtorEq,zGq, s.lp])
          refine s.leaf fun A29 c29 C29 l s => ?_
          have k33 := k33.trans l
          have k10 := k10.trans l
          repeat' (first | simp -implicitDefEqProofs only [zG1,zG2,zG3,zG4,zG5,zG6,zG7,eq_self,resV,rval,X.val,binv,fillL,setR,↓reduceIte,Nat.reduceEqDiff,Nat.reduceAdd,Nat.reduceMul,Nat.reduceLeDiff,Nat.reduceLT,Nat.reduceSub,reduceCtorEq,zGq, s.lp])
          refine l4Both_ok _ _ _ 5 (.mk 13 3 []) (.mk 0 (1 + u) []) A25 A29 c25 c29 (fun z30 C30 t30 cc30 l hz30 k30 => ?_)
          have h30 := s.d.nov hz30
          have o30 := s.off hz30
          have s := s.le l
          have x30 : ¬ z30 = y10 := fun e => k10.ne (e ▸ hz30)
          have k33 := k33.trans l
          have k10 := k10.trans l
          repeat' (first | simp -implicitDefEqProofs only [zG1,zG2,zG3,zG4,zG5,zG6,zG7,eq_self,resV,rval,X.val,binv,fillL,setR,↓reduceIte,Nat.reduceEqDiff,Nat.reduceAdd,Nat.reduceMul,Nat.reduceLeDiff,Nat.reduceLT,Nat.reduceSub,reduceCtorEq,zGq, s.lp])
          refine s.more k33 (by omega) rfl fun A34 c34 C34 bs34 hc hn s => ?_
          have o34 := off_app k10 o10 hn
          have k10 := k10.chg hc o10
          have o10 := o34
          have k30 := k30.chg hc o30
          repeat' (first | simp -implicitDefEqProofs only [zG1,zG2,zG3,zG4,zG5,zG6,zG7,eq_self,resV,rval,X.val,binv,fillL,setR,↓reduceIte,Nat.reduceEqDiff,Nat.reduceAdd,Nat.reduceMul,Nat.reduceLeDiff,Nat.reduceLT,Nat.reduceSub,reduceCtorEq,zGq, s.lp])
          refine s.put k10 h10 p10 o10 (by simp [ocI, ocS]) fun C40 hc s cs => ?_
          have k30 := k30.chg hc (by simpa using x30)
          repeat' (first | simp -implicitDefEqProofs only [zG1,zG2,zG3,zG4,zG5,zG6,zG7,eq_self,resV,rval,X.val,binv,fillL,setR,↓reduceIte,Nat.reduceEqDiff,Nat.reduceAdd,Nat.reduceMul,Nat.reduceLeDiff,Nat.reduceLT,Nat.reduceSub,reduceCtorEq,zGq, s.lp, cs] | (with_reducible refine draw_at C40 (.refl _) ?_) | (with_reducible refine l4Leaf_ok _ _ _ _ _ (fun A37 c37 C37 l37 => ?_)) | (with_reducible refine ⟨l37, ?_⟩) | (with_reducible refine rows_intro (fun y hy => ?_)))
          exact ⟨l37.trans ((AHeap.le.refl C37).fresh hy _), ret_same (finL (A37 := A37) (c37 := c37) h (s.le l37) hs (k30.trans l37) h30 hbd (by omega) ⟨hu0, by omega⟩ (by omega) (by omega) hy)⟩
      · refine s.new fun y10 C10 hy10 h10 p10 o10 n10 l s k10 => ?_
        repeat' (first | simp -implicitDefEqProofs only [zG1,zG2,zG3,zG4,zG5,zG6,zG7,eq_self,resV,rval,X.val,binv,fillL,setR,↓reduceIte,Nat.reduceEqDiff,Nat.reduceAdd,Nat.reduceMul,Nat.reduceLeDiff,Nat.reduceLT,Nat.reduceSub,reduceCtorEq,zGq, s.lp])
        refine ⟨?_, ?_⟩
        · refine s.leaf fun A29 c29 C29 l s => ?_
          have k10 := k10.trans l
          repeat' (first | simp -implicitDefEqProofs only [zG1,zG2,zG3,zG4,zG5,zG6,zG7,eq_self,resV,rval,X.val,binv,fillL,setR,↓reduceIte,Nat.reduceEqDiff,Nat.reduceAdd,Nat.reduceMul,Nat.reduceLeDiff,Nat.reduceLT,Nat.reduceSub,reduceCtorEq,zGq, s.lp])
          refine ⟨?_, ?_⟩
          · refine l4Both_ok _ _ _ 5 (.mk 13 3 []) (.mk 0 (1 + u) []) A25 A29 c25 c29 (fun z30 C30 t30 cc30 l hz30 k30 => ?_)
            have h30 := s.d.nov hz30
            have o30 := s.off hz30
            have s := s.le l
            have x30 : ¬ z30 = y10 := fun e => k10.ne (e ▸ hz30)
            have k10 := k10.trans l
            repeat' (first | simp -implicitDefEqProofs only [zG1,zG2,zG3,zG4,zG5,zG6,zG7,eq_self,resV,rval,X.val,binv,fillL,setR,↓reduceIte,Nat.reduceEqDiff,Nat.reduceAdd,Nat.reduceMul,Nat.reduceLeDiff,Nat.reduceLT,Nat.reduceSub,reduceCtorEq,zGq, s.lp])
            refine s.lit fun y33 C33 n33 l s k33 => ?_
            have k10 := k10.trans l
            have k30 := k30.trans l
            repeat' (first | simp -implicitDefEqProofs only [zG1,zG2,zG3,zG4,zG5,zG6,zG7,eq_self,resV,rval,X.val,binv,fillL,setR,↓reduceIte,Nat.reduceEqDiff,Nat.reduceAdd,Nat.reduceMul,Nat.reduceLeDiff,Nat.reduceLT,Nat.reduceSub,reduceCtorEq,zGq, s.lp])
            refine s.more k33 (by omega) rfl fun A34 c34 C34 bs34 hc hn s => ?_
            have o34 := off_app k10 o10 hn
            have k10 := k10.chg hc o10
            have o10 := o34
            have k30 := k30.chg hc o30
            repeat' (first | simp -implicitDefEqProofs only [zG1,zG2,zG3,zG4,zG5,zG6,zG7,eq_self,resV,rval,X.val,binv,fillL,setR,↓reduceIte,Nat.reduceEqDiff,Nat.reduceAdd,Nat.reduceMul,Nat.reduceLeDiff,Nat.reduceLT,Nat.reduceSub,reduceCtorEq,zGq, s.lp])
            refine s.put k10 h10 p10 o10 (by simp [ocI, ocS]) fun C40 hc s cs => ?_
            have k30 := k30.chg hc (by simpa using x30)
            repeat' (first | simp -implicitDefEqProofs only [zG1,zG2,zG3,zG4,zG5,zG6,zG7,eq_self,resV,rval,X.val,binv,fillL,setR,↓reduceIte,Nat.reduceEqDiff,Nat.reduceAdd,Nat.reduceMul,Nat.reduceLeDiff,Nat.reduceLT,Nat.reduceSub,reduceCtorEq,zGq, s.lp, cs] | (with_reducible refine draw_at C40 (.refl _) ?_) | (with_reducible refine l4Leaf_ok _ _ _ _ _ (fun A37 c37 C37 l37 => ?_)) | (with_reducible refine ⟨l37, ?_⟩) | (with_reducible refine rows_intro (fun y hy => ?_)))
            exact ⟨l37.trans ((AHeap.le.refl C37).fresh hy _), ret_same (finL (A37 := A37) (c37 := c37) h (s.le l37) hs (k30.trans l37) h30 hbd (by omega) ⟨hu0, by omega⟩ (by omega) (by omega) hy)⟩
          · refine s.lit fun y33 C33 n33 l s k33 => ?_
            have k10 := k10.trans l
            repeat' (first | simp -implicitDefEqProofs only [zG1,zG2,zG3,zG4,zG5,zG6,zG7,eq_self,resV,rval,X.val,binv,fillL,setR,↓reduceIte,Nat.reduceEqDiff,Nat.reduceAdd,Nat.reduceMul,Nat.reduceLeDiff,Nat.reduceLT,Nat.reduceSub,reduceCtorEq,zGq, s.lp])
            refine l4Both_ok _ _ _ 5 (.mk 13 3 []) (.mk 0 (1 + u) []) A25 A29 c25 c29 (fun z30 C30 t30 cc30 l hz30 k30 => ?_)
            have h30 := s.d.nov hz30
            have o30 := s.off hz30
            have s := s.le l
            have x30 : ¬ z30 = y10 := fun e => k10.ne (e ▸ hz30)
            have k33 := k33.trans l
            have k10 := k10.trans l
            repeat' (first | simp -implicitDefEqProofs only [zG1,zG2,zG3,zG4,zG5,zG6,zG7,eq_self,resV,rval,X.val,binv,fillL,setR,↓reduceIte,Nat.reduceEqDiff,Nat.reduceAdd,Nat.reduceMul,Nat.reduceLeDiff,Nat.reduceLT,Nat.reduceSub,reduceCtorEq,zGq, s.lp])
            refine s.more k33 (by omega) rfl fun A34 c34 C34 bs34 hc hn s => ?_
            have o34 := off_app k10 o10 hn
            have k10 := k10.chg hc o10
            have o10 := o34
            have k30 := k30.chg hc o30
            repeat' (first | simp -implicitDefEqProofs only [zG1,zG2,zG3,zG4,zG5,zG6,zG7,eq_self,resV,rval,X.val,binv,fillL,setR,↓reduceIte,Nat.reduceEqDiff,Nat.reduceAdd,Nat.reduceMul,Nat.reduceLeDiff,Nat.reduceLT,Nat.reduceSub,reduceCtorEq,zGq, s.lp])
            refine s.put k10 h10 p10 o10 (by simp [ocI, ocS]) fun C40 hc s cs => ?_
            have k30 := k30.chg hc (by simpa using x30)
            repeat' (first | simp -implicitDefEqProofs only [zG1,zG2,zG3,zG4,zG5,zG6,zG7,eq_self,resV,rval,X.val,binv,fillL,setR,↓reduceIte,Nat.reduceEqDiff,Nat.reduceAdd,Nat.reduceMul,Nat.reduceLeDiff,Nat.reduceLT,Nat.reduceSub,reduceCtorEq,zGq, s.lp, cs] | (with_reducible refine draw_at C40 (.refl _) ?_) | (with_reducible refine l4Leaf_ok _ _ _ _ _ (fun A37 c37 C37 l37 => ?_)) | (with_reducible refine ⟨l37, ?_⟩) | (with_reducible refine rows_intro (fun y hy => ?_)))
            exact ⟨l37.trans ((AHeap.le.refl C37).fresh hy _), ret_same (finL (A37 := A37) (c37 := c37) h (s.le l37) hs (k30.trans l37) h30 hbd (by omega) ⟨hu0, by omega⟩ (by omega) (by omega) hy)⟩
        · refine s.lit fun y33 C33 n33 l s k33 => ?_
          have k10 := k10.trans l
          repeat' (first | simp -implicitDefEqProofs only [zG1,zG2,zG3,zG4,zG5,zG6,zG7,eq_self,resV,rval,X.val,binv,fillL,setR,↓reduceIte,Nat.reduceEqDiff,Nat.reduceAdd,Nat.reduceMul,Nat.reduceLeDiff,Nat.reduceLT,Nat.reduceSub,reduceCtorEq,zGq, s.lp])
          refine s.leaf fun A29 c29 C29 l s => ?_
          have k33 := k33.trans l
          have k10 := k10.trans l
          repeat' (first | simp -implicitDefEqProofs only [zG1,zG2,zG3,zG4,zG5,zG6,zG7,eq_self,resV,rval,X.val,binv,fillL,setR,↓reduceIte,Nat.reduceEqDiff,Nat.reduceAdd,Nat.reduceMul,Nat.reduceLeDiff,Nat.reduceLT,Nat.reduceSub,reduceCtorEq,zGq, s.lp])
          refine l4Both_ok _ _ _ 5 (.mk 13 3 []) (.mk 0 (1 + u) []) A25 A29 c25 c29 (fun z30 C30 t30 cc30 l hz30 k30 => ?_)
          have h30 := s.d.nov hz30
          have o30 := s.off hz30
          have s := s.le l
          have x30 : ¬ z30 = y10 := fun e => k10.ne (e ▸ hz30)
          have k33 := k33.trans l
          have k10 := k10.trans l
          repeat' (first | simp -implicitDefEqProofs only [zG1,zG2,zG3,zG4,zG5,zG6,zG7,eq_self,resV,rval,X.val,binv,fillL,setR,↓reduceIte,Nat.reduceEqDiff,Nat.reduceAdd,Nat.reduceMul,Nat.reduceLeDiff,Nat.reduceLT,Nat.reduceSub,reduceCtorEq,zGq, s.lp])
          refine s.more k33 (by omega) rfl fun A34 c34 C34 bs34 hc hn s => ?_
          have o34 := off_app k10 o10 hn
          have k10 := k10.chg hc o10
          have o10 := o34
          have k30 := k30.chg hc o30
          repeat' (first | simp -implicitDefEqProofs only [zG1,zG2,zG3,zG4,zG5,zG6,zG7,eq_self,resV,rval,X.val,binv,fillL,setR,↓reduceIte,Nat.reduceEqDiff,Nat.reduceAdd,Nat.reduceMul,Nat.reduceLeDiff,Nat.reduceLT,Nat.reduceSub,reduceCtorEq,zGq, s.lp])
          refine s.put k10 h10 p10 o10 (by simp [ocI, ocS]) fun C40 hc s cs => ?_
          have k30 := k30.chg hc (by simpa using x30)
          repeat' (first | simp -implicitDefEqProofs only [zG1,zG2,zG3,zG4,zG5,zG6,zG7,eq_self,resV,rval,X.val,binv,fillL,setR,↓reduceIte,Nat.reduceEqDiff,Nat.reduceAdd,Nat.reduceMul,Nat.reduceLeDiff,Nat.reduceLT,Nat.reduceSub,reduceCtorEq,zGq, s.lp, cs] | (with_reducible refine draw_at C40 (.refl _) ?_) | (with_reducible refine l4Leaf_ok _ _ _ _ _ (fun A37 c37 C37 l37 => ?_)) | (with_reducible refine ⟨l37, ?_⟩) | (with_reducible refine rows_intro (fun y hy => ?_)))
          exact ⟨l37.trans ((AHeap.le.refl C37).fresh hy _), ret_same (finL (A37 := A37) (c37 := c37) h (s.le l37) hs (k30.trans l37) h30 hbd (by omega) ⟨hu0, by omega⟩ (by omega) (by omega) hy)⟩
    · refine s.lit fun y33 C33 n33 l s k33 => ?_
      repeat' (first | simp -implicitDefEqProofs only [zG1,zG2,zG3,zG4,zG5,zG6,zG7,eq_self,resV,rval,X.val,binv,fillL,setR,↓reduceIte,Nat.reduceEqDiff,Nat.reduceAdd,Nat.reduceMul,Nat.reduceLeDiff,Nat.reduceLT,Nat.reduceSub,reduceCtorEq,zGq, s.lp])
      refine ⟨?_, ?_⟩
      · refine pickK_ok _ _ s.r 3 (by omega) (by omega) (by decide) (fun u C27 r27 d27 hu0 hu1 => ?_)
        have s := s.pick r27 d27
        have k33 := d27.kn k33 n33
        have w3 := pl1 hu0 hu1
        repeat' (first | simp -implicitDefEqProofs only [zG1,zG2,zG3,zG4,zG5,zG6,zG7,eq_self,resV,rval,X.val,binv,fillL,setR,↓reduceIte,Nat.reduceEqDiff,Nat.reduceAdd,Nat.reduceMul,Nat.reduceLeDiff,Nat.reduceLT,Nat.reduceSub,reduceCtorEq,zGq, s.lp, w3])
        refine ⟨?_, ?_⟩
        · refine s.leaf fun A29 c29 C29 l s => ?_
          have k33 := k33.trans l
          repeat' (first | simp -implicitDefEqProofs only [zG1,zG2,zG3,zG4,zG5,zG6,zG7,eq_self,resV,rval,X.val,binv,fillL,setR,↓reduceIte,Nat.reduceEqDiff,Nat.reduceAdd,Nat.reduceMul,Nat.reduceLeDiff,Nat.reduceLT,Nat.reduceSub,reduceCtorEq,zGq, s.lp])
          refine ⟨?_, ?_⟩
          · refine l4Both_ok _ _ _ 5 (.mk 13 3 []) (.mk 0 (1 + u) []) A25 A29 c25 c29 (fun z30 C30 t30 cc30 l hz30 k30 => ?_)
            have h30 := s.d.nov hz30
            have o30 := s.off hz30
            have s := s.le l
            have k33 := k33.trans l
            repeat' (first | simp -implicitDefEqProofs only [zG1,zG2,zG3,zG4,zG5,zG6,zG7,eq_self,resV,rval,X.val,binv,fillL,setR,↓reduceIte,Nat.reduceEqDiff,Nat.reduceAdd,Nat.reduceMul,Nat.reduceLeDiff,Nat.reduceLT,Nat.reduceSub,reduceCtorEq,zGq, s.lp])
            refine ⟨?_, ?_⟩
            · refine s.more k33 (by omega) rfl fun A34 c34 C34 bs34 hc hn s => ?_
              have k30 := k30.chg hc o30
              repeat' (first | simp -implicitDefEqProofs only [zG1,zG2,zG3,zG4,zG5,zG6,zG7,eq_self,resV,rval,X.val,binv,fillL,setR,↓reduceIte,Nat.reduceEqDiff,Nat.reduceAdd,Nat.reduceMul,Nat.reduceLeDiff,Nat.reduceLT,Nat.reduceSub,reduceCtorEq,zGq, s.lp])
              refine s.new fun y10 C10 hy10 h10 p10 o10 n10 l s k10 => ?_
              have x30 : ¬ z30 = y10 := fun e => k30.ne (e ▸ hy10)
              have k30 := k30.trans l
              repeat' (first | simp -implicitDefEqProofs only [zG1,zG2,zG3,zG4,zG5,zG6,zG7,eq_self,resV,rval,X.val,binv,fillL,setR,↓reduceIte,Nat.reduceEqDiff,Nat.reduceAdd,Nat.reduceMul,Nat.reduceLeDiff,Nat.reduceLT,Nat.reduceSub,reduceCtorEq,zGq, s.lp])
              refine s.put k10 h10 p10 o10 (by simp [ocI, ocS]) fun C40 hc s cs => ?_
              have k30 := k30.chg hc (by simpa using x30)
              repeat' (first | simp -implicitDefEqProofs only [zG1,zG2,zG3,zG4,zG5,zG6,zG7,eq_self,resV,rval,X.val,binv,fillL,setR,↓reduceIte,Nat.reduceEqDiff,Nat.reduceAdd,Nat.reduceMul,Nat.reduceLeDiff,Nat.reduceLT,Nat.reduceSub,reduceCtorEq,zGq, s.lp, cs] | (with_reducible refine draw_at C40 (.refl _) ?_) | (with_reducible refine l4Leaf_ok _ _ _ _ _ (fun A37 c37 C37 l37 => ?_)) | (with_reducible refine ⟨l37, ?_⟩) | (with_reducible refine rows_intro (fun y hy => ?_)))
              exact ⟨l37.trans ((AHeap.le.refl C37).fresh hy _), ret_same (finL (A37 := A37) (c37 := c37) h (s.le l37) hs (k30.trans l37) h30 hbd (by omega) ⟨hu0, by omega⟩ (by omega) (by omega) hy)⟩
            · refine s.new fun y10 C10 hy10 h10 p10 o10 n10 l s k10 => ?_
              have x30 : ¬ z30 = y10 := fun e => k30.ne (e ▸ hy10)
              have k33 := k33.trans l
              have k30 := k30.trans l
              repeat' (first | simp -implicitDefEqProofs only [zG1,zG2,zG3,zG4,zG5,zG6,zG7,eq_self,resV,rval,X.val,binv,fillL,setR,↓reduceIte,Nat.reduceEqDiff,Nat.reduceAdd,Nat.reduceMul,Nat.reduceLeDiff,Nat.reduceLT,Nat.reduceSub,reduceCtorEq,zGq, s.lp])
              refine s.more k33 (by omega) rfl fun A34 c34 C34 bs34 hc hn s => ?_
              have o34 := off_app k10 o10 hn
              have k10 := k10.chg hc o10
              have o10 := o34
              have k30 := k30.chg hc o30
              repeat' (first | simp -implicitDefEqProofs only [zG1,zG2,zG3,zG4,zG5,zG6,zG7,eq_self,resV,rval,X.val,binv,fillL,setR,↓reduceIte,Nat.reduceEqDiff,Nat.reduceAdd,Nat.reduceMul,Nat.reduceLeDiff,Nat.reduceLT,Nat.reduceSub,reduceCtorEq,zGq, s.lp])
              refine s.put k10 h10 p10 o10 (by simp [ocI, ocS]) fun C40 hc s cs => ?_
              have k30 := k30.chg hc (by simpa using x30)
              repeat' (first | simp -implicitDefEqProofs only [zG1,zG2,zG3,zG4,zG5,zG6,zG7,eq_self,resV,rval,X.val,binv,fillL,setR,↓reduceIte,Nat.reduceEqDiff,Nat.reduceAdd,Nat.reduceMul,Nat.reduceLeDiff,Nat.reduceLT,Nat.reduceSub,reduceCtorEq,zGq, s.lp, cs] | (with_reducible refine draw_at C40 (.refl _) ?_) | (with_reducible refine l4Leaf_ok _ _ _ _ _ (fun A37 c37 C37 l37 => ?_)) | (with_reducible refine ⟨l37, ?_⟩) | (with_reducible refine rows_intro (fun y hy => ?_)))
              exact ⟨l37.trans ((AHeap.le.refl C37).fresh hy _), ret_same (finL (A37 := A37) (c37 := c37) h (s.le l37) hs (k30.trans l37) h30 hbd (by omega) ⟨hu0, by omega⟩ (by omega) (by omega) hy)⟩
          · refine s.new fun y10 C10 hy10 h10 p10 o10 n10 l s k10 => ?_
            have k33 := k33.trans l
            repeat' (first | simp -implicitDefEqProofs only [zG1,zG2,zG3,zG4,zG5,zG6,zG7,eq_self,resV,rval,X.val,binv,fillL,setR,↓reduceIte,Nat.reduceEqDiff,Nat.reduceAdd,Nat.reduceMul,Nat.reduceLeDiff,Nat.reduceLT,Nat.reduceSub,reduceCtorEq,zGq, s.lp])
            refine l4Both_ok _ _ _ 5 (.mk 13 3 []) (.mk 0 (1 + u) []) A25 A29 c25 c29 (fun z30 C30 t30 cc30 l hz30 k30 => ?_)
            have h30 := s.d.nov hz30
            have o30 := s.off hz30
            have s := s.le l
            have x30 : ¬ z30 = y10 := fun e => k10.ne (e ▸ hz30)
            have k33 := k33.trans l
            have k10 := k10.trans l
            repeat' (first | simp -implicitDefEqProofs only [zG1,zG2,zG3,zG4,zG5,zG6,zG7,eq_self,resV,rval,X.val,binv,fillL,setR,↓reduceIte,Nat.reduceEqDiff,Nat.reduceAdd,Nat.reduceMul,Nat.reduceLeDiff,Nat.reduceLT,Nat.reduceSub,reduceCtorEq,zGq, s.lp])
            refine s.more k33 (by omega) rfl fun A34 c34 C34 bs34 hc hn s => ?_
            have o34 := off_app k10 o10 hn
            have k10 := k10.chg hc o10
            have o10 := o34
            have k30 := k30.chg hc o30
            repeat' (first | simp -implicitDefEqProofs only [zG1,zG2,zG3,zG4,zG5,zG6,zG7,eq_self,resV,rval,X.val,binv,fillL,setR,↓reduceIte,Nat.reduceEqDiff,Nat.reduceAdd,Nat.reduceMul,Nat.reduceLeDiff,Nat.reduceLT,Nat.reduceSub,reduceCtorEq,zGq, s.lp])
            refine s.put k10 h10 p10 o10 (by simp [ocI, ocS]) fun C40 hc s cs => ?_
            have k30 := k30.chg hc (by simpa using x30)
            repeat' (first | simp -implicitDefEqProofs only [zG1,zG2,zG3,zG4,zG5,zG6,zG7,eq_self,resV,rval,X.val,binv,fillL,setR,↓reduceIte,Nat.reduceEqDiff,Nat.reduceAdd,Nat.reduceMul,Nat.reduceLeDiff,Nat.reduceLT,Nat.reduceSub,reduceCtorEq,zGq, s.lp, cs] | (with_reducible refine draw_at C40 (.refl _) ?_) | (with_reducible refine l4Leaf_ok _ _ _ _ _ (fun A37 c37 C37 l37 => ?_)) | (with_reducible refine ⟨l37, ?_⟩) | (with_reducible refine rows_intro (fun y hy => ?_)))
            exact ⟨l37.trans ((AHeap.le.refl C37).fresh hy _), ret_same (finL (A37 := A37) (c37 := c37) h (s.le l37) hs (k30.trans l37) h30 hbd (by omega) ⟨hu0, by omega⟩ (by omega) (by omega) hy)⟩
        · refine s.new fun y10 C10 hy10 h10 p10 o10 n10 l s k10 => ?_
          have k33 := k33.trans l
          repeat' (first | simp -implicitDefEqProofs only [zG1,zG2,zG3,zG4,zG5,zG6,zG7,eq_self,resV,rval,X.val,binv,fillL,setR,↓reduceIte,Nat.reduceEqDiff,Nat.reduceAdd,Nat.reduceMul,Nat.reduceLeDiff,Nat.reduceLT,Nat.reduceSub,reduceCtorEq,zGq, s.lp])
          refine s.leaf fun A29 c29 C29 l s => ?_
          have k33 := k33.trans l
          have k10 := k10.trans l
          repeat' (first | simp -implicitDefEqProofs only [zG1,zG2,zG3,zG4,zG5,zG6,zG7,eq_self,resV,rval,X.val,binv,fillL,setR,↓reduceIte,Nat.reduceEqDiff,Nat.reduceAdd,Nat.reduceMul,Nat.reduceLeDiff,Nat.reduceLT,Nat.reduceSub,reduceCtorEq,zGq, s.lp])
          refine l4Both_ok _ _ _ 5 (.mk 13 3 []) (.mk 0 (1 + u) []) A25 A29 c25 c29 (fun z30 C30 t30 cc30 l hz30 k30 => ?_)
          have h30 := s.d.nov hz30
          have o30 := s.off hz30
          have s := s.le l
          have x30 : ¬ z30 = y10 := fun e => k10.ne (e ▸ hz30)
          have k33 := k33.trans l
          have k10 := k10.trans l
          repeat' (first | simp -implicitDefEqProofs only [zG1,zG2,zG3,zG4,zG5,zG6,zG7,eq_self,resV,rval,X.val,binv,fillL,setR,↓reduceIte,Nat.reduceEqDiff,Nat.reduceAdd,Nat.reduceMul,Nat.reduceLeDiff,Nat.reduceLT,Nat.reduceSub,reduceCtorEq,zGq, s.lp])
          refine s.more k33 (by omega) rfl fun A34 c34 C34 bs34 hc hn s => ?_
          have o34 := off_app k10 o10 hn
          have k10 := k10.chg hc o10
          have o10 := o34
          have k30 := k30.chg hc o30
          repeat' (first | simp -implicitDefEqProofs only [zG1,zG2,zG3,zG4,zG5,zG6,zG7,eq_self,resV,rval,X.val,binv,fillL,setR,↓reduceIte,Nat.reduceEqDiff,Nat.reduceAdd,Nat.reduceMul,Nat.reduceLeDiff,Nat.reduceLT,Nat.reduceSub,reduceCtorEq,zGq, s.lp])
          refine s.put k10 h10 p10 o10 (by simp [ocI, ocS]) fun C40 hc s cs => ?_
          have k30 := k30.chg hc (by simpa using x30)
          repeat' (first | simp -implicitDefEqProofs only [zG1,zG2,zG3,zG4,zG5,zG6,zG7,eq_self,resV,rval,X.val,binv,fillL,setR,↓reduceIte,Nat.reduceEqDiff,Nat.reduceAdd,Nat.reduceMul,Nat.reduceLeDiff,Nat.reduceLT,Nat.reduceSub,reduceCtorEq,zGq, s.lp, cs] | (with_reducible refine draw_at C40 (.refl _) ?_) | (with_reducible refine l4Leaf_ok _ _ _ _ _ (fun A37 c37 C37 l37 => ?_)) | (with_reducible refine ⟨l37, ?_⟩) | (with_reducible refine rows_intro (fun y hy => ?_)))
          exact ⟨l37.trans ((AHeap.le.refl C37).fresh hy _), ret_same (finL (A37 := A37) (c37 := c37) h (s.le l37) hs (k30.trans l37) h30 hbd (by omega) ⟨hu0, by omega⟩ (by omega) (by omega) hy)⟩
      · refine s.new fun y10 C10 hy10 h10 p10 o10 n10 l s k10 => ?_
        have k33 := k33.trans l
        repeat' (first | simp -implicitDefEqProofs only [zG1,zG2,zG3,zG4,zG5,zG6,zG7,eq_self,resV,rval,X.val,binv,fillL,setR,↓reduceIte,Nat.reduceEqDiff,Nat.reduceAdd,Nat.reduceMul,Nat.reduceLeDiff,Nat.reduceLT,Nat.reduceSub,reduceCtorEq,zGq, s.lp])
        refine pickK_ok _ _ s.r 3 (by omega) (by omega) (by decide) (fun u C27 r27 d27 hu0 hu1 => ?_)
        have s := s.pick r27 d27
        have k33 := d27.kn k33 n33
        have k10 := d27.kn k10 n10
        have w3 := pl1 hu0 hu1
        repeat' (first | simp -implicitDefEqProofs only [zG1,zG2,zG3,zG4,zG5,zG6,zG7,eq_self,resV,rval,X.val,binv,fillL,setR,↓reduceIte,Nat.reduceEqDiff,Nat.reduceAdd,Nat.reduceMul,Nat.reduceLeDiff,Nat.reduceLT,Nat.reduceSub,reduceCtorEq,zGq, s.lp, w3])
        refine s.leaf fun A29 c29 C29 l s => ?_
        have k33 := k33.trans l
        have k10 := k10.trans l
        repeat' (first | simp -implicitDefEqProofs only [zG1,zG2,zG3,zG4,zG5,zG6,zG7,eq_self,resV,rval,X.val,binv,fillL,setR,↓reduceIte,Nat.reduceEqDiff,Nat.reduceAdd,Nat.reduceMul,Nat.reduceLeDiff,Nat.reduceLT,Nat.reduceSub,reduceCtorEq,zGq, s.lp])
        refine l4Both_ok _ _ _ 5 (.mk 13 3 []) (.mk 0 (1 + u) []) A25 A29 c25 c29 (fun z30 C30 t30 cc30 l hz30 k30 => ?_)
        have h30 := s.d.nov hz30
        have o30 := s.off hz30
        have s := s.le l
        have x30 : ¬ z30 = y10 := fun e => k10.ne (e ▸ hz30)
        have k33 := k33.trans l
        have k10 := k10.trans l
        repeat' (first | simp -implicitDefEqProofs only [zG1,zG2,zG3,zG4,zG5,zG6,zG7,eq_self,resV,rval,X.val,binv,fillL,setR,↓reduceIte,Nat.reduceEqDiff,Nat.reduceAdd,Nat.reduceMul,Nat.reduceLeDiff,Nat.reduceLT,Nat.reduceSub,reduceCtorEq,zGq, s.lp])
        refine s.more k33 (by omega) rfl fun A34 c34 C34 bs34 hc hn s => ?_
        have o34 := off_app k10 o10 hn
        have k10 := k10.chg hc o10
        have o10 := o34
        have k30 := k30.chg hc o30
        repeat' (first | simp -implicitDefEqProofs only [zG1,zG2,zG3,zG4,zG5,zG6,zG7,eq_self,resV,rval,X.val,binv,fillL,setR,↓reduceIte,Nat.reduceEqDiff,Nat.reduceAdd,Nat.reduceMul,Nat.reduceLeDiff,Nat.reduceLT,Nat.reduceSub,reduceCtorEq,zGq, s.lp])
        refine s.put k10 h10 p10 o10 (by simp [ocI, ocS]) fun C40 hc s cs => ?_
        have k30 := k30.chg hc (by simpa using x30)
        repeat' (first | simp -implicitDefEqProofs only [zG1,zG2,zG3,zG4,zG5,zG6,zG7,eq_self,resV,rval,X.val,binv,fillL,setR,↓reduceIte,Nat.reduceEqDiff,Nat.reduceAdd,Nat.reduceMul,Nat.reduceLeDiff,Nat.reduceLT,Nat.reduceSub,reduceCtorEq,zGq, s.lp, cs] | (with_reducible refine draw_at C40 (.refl _) ?_) | (with_reducible refine l4Leaf_ok _ _ _ _ _ (fun A37 c37 C37 l37 => ?_)) | (with_reducible refine ⟨l37, ?_⟩) | (with_reducible refine rows_intro (fun y hy => ?_)))
        exact ⟨l37.trans ((AHeap.le.refl C37).fresh hy _), ret_same (finL (A37 := A37) (c37 := c37) h (s.le l37) hs (k30.trans l37) h30 hbd (by omega) ⟨hu0, by omega⟩ (by omega) (by omega) hy)⟩
    · refine s.new fun y10 C10 hy10 h10 p10 o10 n10 l s k10 => ?_
      repeat' (first | simp -implicitDefEqProofs only [zG1,zG2,zG3,zG4,zG5,zG6,zG7,eq_self,resV,rval,X.val,binv,fillL,setR,↓reduceIte,Nat.reduceEqDiff,Nat.reduceAdd,Nat.reduceMul,Nat.reduceLeDiff,Nat.reduceLT,Nat.reduceSub,reduceCtorEq,zGq, s.lp])
      refine ⟨?_, ?_⟩
      · refine pickK_ok _ _ s.r 3 (by omega) (by omega) (by decide) (fun u C27 r27 d27 hu0 hu1 => ?_)
        have s := s.pick r27 d27
        have k10 := d27.kn k10 n10
        have w3 := pl1 hu0 hu1
        repeat' (first | simp -implicitDefEqProofs only [zG1,zG2,zG3,zG4,zG5,zG6,zG7,eq_self,resV,rval,X.val,binv,fillL,setR,↓reduceIte,Nat.reduceEqDiff,Nat.reduceAdd,Nat.reduceMul,Nat.reduceLeDiff,Nat.reduceLT,Nat.reduceSub,reduceCtorEq,zGq, s.lp, w3])
        refine ⟨?_, ?_⟩
        · refine s.leaf fun A29 c29 C29 l s => ?_
          have k10 := k10.trans l
          repeat' (first | simp -implicitDefEqProofs only [zG1,zG2,zG3,zG4,zG5,zG6,zG7,eq_self,resV,rval,X.val,binv,fillL,setR,↓reduceIte,Nat.reduceEqDiff,Nat.reduceAdd,Nat.reduceMul,Nat.reduceLeDiff,Nat.reduceLT,Nat.reduceSub,reduceCtorEq,zGq, s.lp])
          refine ⟨?_, ?_⟩
          · refine l4Both_ok _ _ _ 5 (.mk 13 3 []) (.mk 0 (1 + u) []) A25 A29 c25 c29 (fun z30 C30 t30 cc30 l hz30 k30 => ?_)
            have h30 := s.d.nov hz30
            have o30 := s.off hz30
            have s := s.le l
            have x30 : ¬ z30 = y10 := fun e => k10.ne (e ▸ hz30)
            have k10 := k10.trans l
            repeat' (first | simp -implicitDefEqProofs only [zG1,zG2,zG3,zG4,zG5,zG6,zG7,eq_self,resV,rval,X.val,binv,fillL,setR,↓reduceIte,Nat.reduceEqDiff,Nat.reduceAdd,Nat.reduceMul,Nat.reduceLeDiff,Nat.reduceLT,Nat.reduceSub,reduceCtorEq,zGq, s.lp])
            refine s.lit fun y33 C33 n33 l s k33 => ?_
            have k10 := k10.trans l
            have k30 := k30.trans l
            repeat' (first | simp -implicitDefEqProofs only [zG1,zG2,zG3,zG4,zG5,zG6,zG7,eq_self,resV,rval,X.val,binv,fillL,setR,↓reduceIte,Nat.reduceEqDiff,Nat.reduceAdd,Nat.reduceMul,Nat.reduceLeDiff,Nat.reduceLT,Nat.reduceSub,reduceCtorEq,zGq, s.lp])
            refine s.more k33 (by omega) rfl fun A34 c34 C34 bs34 hc hn s => ?_
            have o34 := off_app k10 o10 hn
            have k10 := k10.chg hc o10
            have o10 := o34
            have k30 := k30.chg hc o30
            repeat' (first | simp -implicitDefEqProofs only [zG1,zG2,zG3,zG4,zG5,zG6,zG7,eq_self,resV,rval,X.val,binv,fillL,setR,↓reduceIte,Nat.reduceEqDiff,Nat.reduceAdd,Nat.reduceMul,Nat.reduceLeDiff,Nat.reduceLT,Nat.reduceSub,reduceCtorEq,zGq, s.lp])
            refine s.put k10 h10 p10 o10 (by simp [ocI, ocS]) fun C40 hc s cs => ?_
            have k30 := k30.chg hc (by simpa using x30)
            repeat' (first | simp -implicitDefEqProofs only [zG1,zG2,zG3,zG4,zG5,zG6,zG7,eq_self,resV,rval,X.val,binv,fillL,setR,↓reduceIte,Nat.reduceEqDiff,Nat.reduceAdd,Nat.reduceMul,Nat.reduceLeDiff,Nat.reduceLT,Nat.reduceSub,reduceCtorEq,zGq, s.lp, cs] | (with_reducible refine draw_at C40 (.refl _) ?_) | (with_reducible refine l4Leaf_ok _ _ _ _ _ (fun A37 c37 C37 l37 => ?_)) | (with_reducible refine ⟨l37, ?_⟩) | (with_reducible refine rows_intro (fun y hy => ?_)))
            exact ⟨l37.trans ((AHeap.le.refl C37).fresh hy _), ret_same (finL (A37 := A37) (c37 := c37) h (s.le l37) hs (k30.trans l37) h30 hbd (by omega) ⟨hu0, by omega⟩ (by omega) (by omega) hy)⟩
          · refine s.lit fun y33 C33 n33 l s k33 => ?_
            have k10 := k10.trans l
            repeat' (first | simp -implicitDefEqProofs only [zG1,zG2,zG3,zG4,zG5,zG6,zG7,eq_self,resV,rval,X.val,binv,fillL,setR,↓reduceIte,Nat.reduceEqDiff,Nat.reduceAdd,Nat.reduceMul,Nat.reduceLeDiff,Nat.reduceLT,Nat.reduceSub,reduceCtorEq,zGq, s.lp])
            refine l4Both_ok _ _ _ 5 (.mk 13 3 []) (.mk 0 (1 + u) []) A25 A29 c25 c29 (fun z30 C30 t30 cc30 l hz30 k30 => ?_)
            have h30 := s.d.nov hz30
            have o30 := s.off hz30
            have s := s.le l
            have x30 : ¬ z30 = y10 := fun e => k10.ne (e ▸ hz30)
            have k33 := k33.trans l
            have k10 := k10.trans l
            repeat' (first | simp -implicitDefEqProofs only [zG1,zG2,zG3,zG4,zG5,zG6,zG7,eq_self,resV,rval,X.val,binv,fillL,setR,↓reduceIte,Nat.reduceEqDiff,Nat.reduceAdd,Nat.reduceMul,Nat.reduceLeDiff,Nat.reduceLT,Nat.reduceSub,reduceCtorEq,zGq, s.lp])
            refine s.more k33 (by omega) rfl fun A34 c34 C34 bs34 hc hn s => ?_
            have o34 := off_app k10 o10 hn
            have k10 := k10.chg hc o10
            have o10 := o34
            have k30 := k30.chg hc o30
            repeat' (first | simp -implicitDefEqProofs only [zG1,zG2,zG3,zG4,zG5,zG6,zG7,eq_self,resV,rval,X.val,binv,fillL,setR,↓reduceIte,Nat.reduceEqDiff,Nat.reduceAdd,Nat.reduceMul,Nat.reduceLeDiff,Nat.reduceLT,Nat.reduceSub,reduceCtorEq,zGq, s.lp])
            refine s.put k10 h10 p10 o10 (by simp [ocI, ocS]) fun C40 hc s cs => ?_
            have k30 := k30.chg hc (by simpa using x30)
            repeat' (first | simp -implicitDefEqProofs only [zG1,zG2,zG3,zG4,zG5,zG6,zG7,eq_self,resV,rval,X.val,binv,fillL,setR,↓reduceIte,Nat.reduceEqDiff,Nat.reduceAdd,Nat.reduceMul,Nat.reduceLeDiff,Nat.reduceLT,Nat.reduceSub,reduceCtorEq,zGq, s.lp, cs] | (with_reducible refine draw_at C40 (.refl _) ?_) | (with_reducible refine l4Leaf_ok _ _ _ _ _ (fun A37 c37 C37 l37 => ?_)) | (with_reducible refine ⟨l37, ?_⟩) | (with_reducible refine rows_intro (fun y hy => ?_)))
            exact ⟨l37.trans ((AHeap.le.refl C37).fresh hy _), ret_same (finL (A37 := A37) (c37 := c37) h (s.le l37) hs (k30.trans l37) h30 hbd (by omega) ⟨hu0, by omega⟩ (by omega) (by omega) hy)⟩
        · refine s.lit fun y33 C33 n33 l s k33 => ?_
          have k10 := k10.trans l
          repeat' (first | simp -implicitDefEqProofs only [zG1,zG2,zG3,zG4,zG5,zG6,zG7,eq_self,resV,rval,X.val,binv,fillL,setR,↓reduceIte,Nat.reduceEqDiff,Nat.reduceAdd,Nat.reduceMul,Nat.reduceLeDiff,Nat.reduceLT,Nat.reduceSub,reduceCtorEq,zGq, s.lp])
          refine s.leaf fun A29 c29 C29 l s => ?_
          have k33 := k33.trans l
          have k10 := k10.trans l
          repeat' (first | simp -implicitDefEqProofs only [zG1,zG2,zG3,zG4,zG5,zG6,zG7,eq_self,resV,rval,X.val,binv,fillL,setR,↓reduceIte,Nat.reduceEqDiff,Nat.reduceAdd,Nat.reduceMul,Nat.reduceLeDiff,Nat.reduceLT,Nat.reduceSub,reduceCtorEq,zGq, s.lp])
          refine l4Both_ok _ _ _ 5 (.mk 13 3 []) (.mk 0 (1 + u) []) A25 A29 c25 c29 (fun z30 C30 t30 cc30 l hz30 k30 => ?_)
          have h30 := s.d.nov hz30
          have o30 := s.off hz30
          have s := s.le l
          have x30 : ¬ z30 = y10 := fun e => k10.ne (e ▸ hz30)
          have k33 := k33.trans l
          have k10 := k10.trans l
          repeat' (first | simp -implicitDefEqProofs only [zG1,zG2,zG3,zG4,zG5,zG6,zG7,eq_self,resV,rval,X.val,binv,fillL,setR,↓reduceIte,Nat.reduceEqDiff,Nat.reduceAdd,Nat.reduceMul,Nat.reduceLeDiff,Nat.reduceLT,Nat.reduceSub,reduceCtorEq,zGq, s.lp])
          refine s.more k33 (by omega) rfl fun A34 c34 C34 bs34 hc hn s => ?_
          have o34 := off_app k10 o10 hn
          have k10 := k10.chg hc o10
          have o10 := o34
          have k30 := k30.chg hc o30
          repeat' (first | simp -implicitDefEqProofs only [zG1,zG2,zG3,zG4,zG5,zG6,zG7,eq_self,resV,rval,X.val,binv,fillL,setR,↓reduceIte,Nat.reduceEqDiff,Nat.reduceAdd,Nat.reduceMul,Nat.reduceLeDiff,Nat.reduceLT,Nat.reduceSub,reduceCtorEq,zGq, s.lp])
          refine s.put k10 h10 p10 o10 (by simp [ocI, ocS]) fun C40 hc s cs => ?_
          have k30 := k30.chg hc (by simpa using x30)
          repeat' (first | simp -implicitDefEqProofs only [zG1,zG2,zG3,zG4,zG5,zG6,zG7,eq_self,resV,rval,X.val,binv,fillL,setR,↓reduceIte,Nat.reduceEqDiff,Nat.reduceAdd,Nat.reduceMul,Nat.reduceLeDiff,Nat.reduceLT,Nat.reduceSub,reduceCtorEq,zGq, s.lp, cs] | (with_reducible refine draw_at C40 (.refl _) ?_) | (with_reducible refine l4Leaf_ok _ _ _ _ _ (fun A37 c37 C37 l37 => ?_)) | (with_reducible refine ⟨l37, ?_⟩) | (with_reducible refine rows_intro (fun y hy => ?_)))
          exact ⟨l37.trans ((AHeap.le.refl C37).fresh hy _), ret_same (finL (A37 := A37) (c37 := c37) h (s.le l37) hs (k30.trans l37) h30 hbd (by omega) ⟨hu0, by omega⟩ (by omega) (by omega) hy)⟩
      · refine s.lit fun y33 C33 n33 l s k33 => ?_
        have k10 := k10.trans l
        repeat' (first | simp -implicitDefEqProofs only [zG1,zG2,zG3,zG4,zG5,zG6,zG7,eq_self,resV,rval,X.val,binv,fillL,setR,↓reduceIte,Nat.reduceEqDiff,Nat.reduceAdd,Nat.reduceMul,Nat.reduceLeDiff,Nat.reduceLT,Nat.reduceSub,reduceCtorEq,zGq, s.lp])
        refine pickK_ok _ _ s.r 3 (by omega) (by omega) (by decide) (fun u C27 r27 d27 hu0 hu1 => ?_)
        have s := s.pick r27 d27
        have k33 := d27.kn k33 n33
        have k10 := d27.kn k10 n10
        have w3 := pl1 hu0 hu1
        repeat' (first | simp -implicitDefEqProofs only [zG1,zG2,zG3,zG4,zG5,zG6,zG7,eq_self,resV,rval,X.val,binv,fillL,setR,↓reduceIte,Nat.reduceEqDiff,Nat.reduceAdd,Nat.reduceMul,Nat.reduceLeDiff,Nat.reduceLT,Nat.reduceSub,reduceCtorEq,zGq, s.lp, w3])
        refine s.leaf fun A29 c29 C29 l s => ?_
        have k33 := k33.trans l
        have k10 := k10.trans l
        repeat' (first | simp -implicitDefEqProofs only [zG1,zG2,zG3,zG4,zG5,zG6,zG7,eq_self,resV,rval,X.val,binv,fillL,setR,↓reduceIte,Nat.reduceEqDiff,Nat.reduceAdd,Nat.reduceMul,Nat.reduceLeDiff,Nat.reduceLT,Nat.reduceSub,reduceCtorEq,zGq, s.lp])
        refine l4Both_ok _ _ _ 5 (.mk 13 3 []) (.mk 0 (1 + u) []) A25 A29 c25 c29 (fun z30 C30 t30 cc30 l hz30 k30 => ?_)
        have h30 := s.d.nov hz30
        have o30 := s.off hz30
        have s := s.le l
        have x30 : ¬ z30 = y10 := fun e => k10.ne (e ▸ hz30)
        have k33 := k33.trans l
        have k10 := k10.trans l
        repeat' (first | simp -implicitDefEqProofs only [zG1,zG2,zG3,zG4,zG5,zG6,zG7,eq_self,resV,rval,X.val,binv,fillL,setR,↓reduceIte,Nat.reduceEqDiff,Nat.reduceAdd,Nat.reduceMul,Nat.reduceLeDiff,Nat.reduceLT,Nat.reduceSub,reduceCtorEq,zGq, s.lp])
        refine s.more k33 (by omega) rfl fun A34 c34 C34 bs34 hc hn s => ?_
        have o34 := off_app k10 o10 hn
        have k10 := k10.chg hc o10
        have o10 := o34
        have k30 := k30.chg hc o30
        repeat' (first | simp -implicitDefEqProofs only [zG1,zG2,zG3,zG4,zG5,zG6,zG7,eq_self,resV,rval,X.val,binv,fillL,setR,↓reduceIte,Nat.reduceEqDiff,Nat.reduceAdd,Nat.reduceMul,Nat.reduceLeDiff,Nat.reduceLT,Nat.reduceSub,reduceCtorEq,zGq, s.lp])
        refine s.put k10 h10 p10 o10 (by simp [ocI, ocS]) fun C40 hc s cs => ?_
        have k30 := k30.chg hc (by simpa using x30)
        repeat' (first | simp -implicitDefEqProofs only [zG1,zG2,zG3,zG4,zG5,zG6,zG7,eq_self,resV,rval,X.val,binv,fillL,setR,↓reduceIte,Nat.reduceEqDiff,Nat.reduceAdd,Nat.reduceMul,Nat.reduceLeDiff,Nat.reduceLT,Nat.reduceSub,reduceCtorEq,zGq, s.lp, cs] | (with_reducible refine draw_at C40 (.refl _) ?_) | (with_reducible refine l4Leaf_ok _ _ _ _ _ (fun A37 c37 C37 l37 => ?_)) | (with_reducible refine ⟨l37, ?_⟩) | (with_reducible refine rows_intro (fun y hy => ?_)))
        exact ⟨l37.trans ((AHeap.le.refl C37).fresh hy _), ret_same (finL (A37 := A37) (c37 := c37) h (s.le l37) hs (k30.trans l37) h30 hbd (by omega) ⟨hu0, by omega⟩ (by omega) (by omega) hy)⟩
  · refine s.lit fun y33 C33 n33 l s k33 => ?_
    repeat' (first | simp -implicitDefEqProofs only [zG1,zG2,zG3,zG4,zG5,zG6,zG7,eq_self,resV,rval,X.val,binv,fillL,setR,↓reduceIte,Nat.reduceEqDiff,Nat.reduceAdd,Nat.reduceMul,Nat.reduceLeDiff,Nat.reduceLT,Nat.reduceSub,reduceCtorEq,zGq, s.lp])
    refine ⟨?_, ?_⟩
    · refine s.leaf fun A25 c25 C25 l s => ?_
      have k33 := k33.trans l
      repeat' (first | simp -implicitDefEqProofs only [zG1,zG2,zG3,zG4,zG5,zG6,zG7,eq_self,resV,rval,X.val,binv,fillL,setR,↓reduceIte,Nat.reduceEqDiff,Nat.reduceAdd,Nat.reduceMul,Nat.reduceLeDiff,Nat.reduceLT,Nat.reduceSub,reduceCtorEq,zGq, s.lp])
      refine ⟨?_, ?_⟩
      · refine pickK_ok _ _ s.r 3 (by omega) (by omega) (by decide) (fun u C27 r27 d27 hu0 hu1 => ?_)
        have s := s.pick r27 d27
        have k33 := d27.kn k33 n33
        have w3 := pl1 hu0 hu1
        repeat' (first | simp -implicitDefEqProofs only [zG1,zG2,zG3,zG4,zG5,zG6,zG7,eq_self,resV,rval,X.val,binv,fillL,setR,↓reduceIte,Nat.reduceEqDiff,Nat.reduceAdd,Nat.reduceMul,Nat.reduceLeDiff,Nat.reduceLT,Nat.reduceSub,reduceCtorEq,zGq, s.lp, w3])
        refine ⟨?_, ?_⟩
        · refine s.leaf fun A29 c29 C29 l s => ?_
          have k33 := k33.trans l
          repeat' (first | simp -implicitDefEqProofs only [zG1,zG2,zG3,zG4,zG5,zG6,zG7,eq_self,resV,rval,X.val,binv,fillL,setR,↓reduceIte,Nat.reduceEqDiff,Nat.reduceAdd,Nat.reduceMul,Nat.reduceLeDiff,Nat.reduceLT,Nat.reduceSub,reduceCtorEq,zGq, s.lp])
          refine ⟨?_, ?_⟩
          · refine l4Both_ok _ _ _ 5 (.mk 13 3 []) (.mk 0 (1 + u) []) A25 A29 c25 c29 (fun z30 C30 t30 cc30 l hz30 k30 => ?_)
            have h30 := s.d.nov hz30
            have o30 := s.off hz30
            have s := s.le l
            have k33 := k33.trans l
            repeat' (first | simp -implicitDefEqProofs only [zG1,zG2,zG3,zG4,zG5,zG6,zG7,eq_self,resV,rval,X.val,binv,fillL,setR,↓reduceIte,Nat.reduceEqDiff,Nat.reduceAdd,Nat.reduceMul,Nat.reduceLeDiff,Nat.reduceLT,Nat.reduceSub,reduceCtorEq,zGq, s.lp])
            refine ⟨?_, ?_⟩
            · refine s.more k33 (by omega) rfl fun A34 c34 C34 bs34 hc hn s => ?_
              have k30 := k30.chg hc o30
              repeat' (first | simp -implicitDefEqProofs only [zG1,zG2,zG3,zG4,zG5,zG6,zG7,eq_self,resV,rval,X.val,binv,fillL,setR,↓reduceIte,Nat.reduceEqDiff,Nat.reduceAdd,Nat.reduceMul,Nat.reduceLeDiff,Nat.reduceLT,Nat.reduceSub,reduceCtorEq,zGq, s.lp])
              refine s.new fun y10 C10 hy10 h10 p10 o10 n10 l s k10 => ?_
              have x30 : ¬ z30 = y10 := fun e => k30.ne (e ▸ hy10)
              have k30 := k30.trans l
              repeat' (first | simp -implicitDefEqProofs only [zG1,zG2,zG3,zG4,zG5,zG6,zG7,eq_self,resV,rval,X.val,binv,fillL,setR,↓reduceIte,Nat.reduceEqDiff,Nat.reduceAdd,Nat.reduceMul,Nat.reduceLeDiff,Nat.reduceLT,Nat.reduceSub,reduceCtorEq,zGq, s.lp])
              refine s.put k10 h10 p10 o10 (by simp [ocI, ocS]) fun C40 hc s cs => ?_
              have k30 := k30.chg hc (by simpa using x30)
              repeat' (first | simp -implicitDefEqProofs only [zG1,zG2,zG3,zG4,zG5,zG6,zG7,eq_self,resV,rval,X.val,binv,fillL,setR,↓reduceIte,Nat.reduceEqDiff,Nat.reduceAdd,Nat.reduceMul,Nat.reduceLeDiff,Nat.reduceLT,Nat.reduceSub,reduceCtorEq,zGq, s.lp, cs] | (with_reducible refine draw_at C40 (.refl _) ?_) | (with_reducible refine l4Leaf_ok _ _ _ _ _ (fun A37 c37 C37 l37 => ?_)) | (with_reducible refine ⟨l37, ?_⟩) | (with_reducible refine rows_intro (fun y hy => ?_)))
              exact ⟨l37.trans ((AHeap.le.refl C37).fresh hy _), ret_same (finL (A37 := A37) (c37 := c37) h (s.le l37) hs (k30.trans l37) h30 hbd (by omega) ⟨hu0, by omega⟩ (by omega) (by omega) hy)⟩
            · refine s.new fun y10 C10 hy10 h10 p10 o10 n10 l s k10 => ?_
              have x30 : ¬ z30 = y10 := fun e => k30.ne (e ▸ hy10)
              have k33 := k33.trans l
              have k30 := k30.trans l
              repeat' (first | simp -implicitDefEqProofs only [zG1,zG2,zG3,zG4,zG5,zG6,zG7,eq_self,resV,rval,X.val,binv,fillL,setR,↓reduceIte,Nat.reduceEqDiff,Nat.reduceAdd,Nat.reduceMul,Nat.reduceLeDiff,Nat.reduceLT,Nat.reduceSub,reduceCtorEq,zGq, s.lp])
              refine s.more k33 (by omega) rfl fun A34 c34 C34 bs34 hc hn s => ?_
              have o34 := off_app k10 o10 hn
              have k10 := k10.chg hc o10
              have o10 := o34
              have k30 := k30.chg hc o30
              repeat' (first | simp -implicitDefEqProofs only [zG1,zG2,zG3,zG4,zG5,zG6,zG7,eq_self,resV,rval,X.val,binv,fillL,setR,↓reduceIte,Nat.reduceEqDiff,Nat.reduceAdd,Nat.reduceMul,Nat.reduceLeDiff,Nat.reduceLT,Nat.reduceSub,reduceCtorEq,zGq, s.lp])
              refine s.put k10 h10 p10 o10 (by simp [ocI, ocS]) fun C40 hc s cs => ?_
              have k30 := k30.chg hc (by simpa using x30)
              repeat' (first | simp -implicitDefEqProofs only [zG1,zG2,zG3,zG4,zG5,zG6,zG7,eq_self,resV,rval,X.val,binv,fillL,setR,↓reduceIte,Nat.reduceEqDiff,Nat.reduceAdd,Nat.reduceMul,Nat.reduceLeDiff,Nat.reduceLT,Nat.reduceSub,reduceCtorEq,zGq, s.lp, cs] | (with_reducible refine draw_at C40 (.refl _) ?_) | (with_reducible refine l4Leaf_ok _ _ _ _ _ (fun A37 c37 C37 l37 => ?_)) | (with_reducible refine ⟨l37, ?_⟩) | (with_reducible refine rows_intro (fun y hy => ?_)))
              exact ⟨l37.trans ((AHeap.le.refl C37).fresh hy _), ret_same (finL (A37 := A37) (c37 := c37) h (s.le l37) hs (k30.trans l37) h30 hbd (by omega) ⟨hu0, by omega⟩ (by omega) (by omega) hy)⟩
          · refine s.new fun y10 C10 hy10 h10 p10 o10 n10 l s k10 => ?_
            have k33 := k33.trans l
            repeat' (first | simp -implicitDefEqProofs only [zG1,zG2,zG3,zG4,zG5,zG6,zG7,eq_self,resV,rval,X.val,binv,fillL,setR,↓reduceIte,Nat.reduceEqDiff,Nat.reduceAdd,Nat.reduceMul,Nat.reduceLeDiff,Nat.reduceLT,Nat.reduceSub,reduceCtorEq,zGq, s.lp])
            refine l4Both_ok _ _ _ 5 (.mk 13 3 []) (.mk 0 (1 + u) []) A25 A29 c25 c29 (fun z30 C30 t30 cc30 l hz30 k30 => ?_)
            have h30 := s.d.nov hz30
            have o30 := s.off hz30
            have s := s.le l
            have x30 : ¬ z30 = y10 := fun e => k10.ne (e ▸ hz30)
            have k33 := k33.trans l
            have k10 := k10.trans l
            repeat' (first | simp -implicitDefEqProofs only [zG1,zG2,zG3,zG4,zG5,zG6,zG7,eq_self,resV,rval,X.val,binv,fillL,setR,↓reduceIte,Nat.reduceEqDiff,Nat.reduceAdd,Nat.reduceMul,Nat.reduceLeDiff,Nat.reduceLT,Nat.reduceSub,reduceCtorEq,zGq, s.lp])
            refine s.more k33 (by omega) rfl fun A34 c34 C34 bs34 hc hn s => ?_
            have o34 := off_app k10 o10 hn
            have k10 := k10.chg hc o10
            have o10 := o34
            have k30 := k30.chg hc o30
            repeat' (first | simp -implicitDefEqProofs only [zG1,zG2,zG3,zG4,zG5,zG6,zG7,eq_self,resV,rval,X.val,binv,fillL,setR,↓reduceIte,Nat.reduceEqDiff,Nat.reduceAdd,Nat.reduceMul,Nat.reduceLeDiff,Nat.reduceLT,Nat.reduceSub,reduceCtorEq,zGq, s.lp])
            refine s.put k10 h10 p10 o10 (by simp [ocI, ocS]) fun C40 hc s cs => ?_
            have k30 := k30.chg hc (by simpa using x30)
            repeat' (first | simp -implicitDefEqProofs only [zG1,zG2,zG3,zG4,zG5,zG6,zG7,eq_self,resV,rval,X.val,binv,fillL,setR,↓reduceIte,Nat.reduceEqDiff,Nat.reduceAdd,Nat.reduceMul,Nat.reduceLeDiff,Nat.reduceLT,Nat.reduceSub,reduceCtorEq,zGq, s.lp, cs] | (with_reducible refine draw_at C40 (.refl _) ?_) | (with_reducible refine l4Leaf_ok _ _ _ _ _ (fun A37 c37 C37 l37 => ?_)) | (with_reducible refine ⟨l37, ?_⟩) | (with_reducible refine rows_intro (fun y hy => ?_)))
            exact ⟨l37.trans ((AHeap.le.refl C37).fresh hy _), ret_same (finL (A37 := A37) (c37 := c37) h (s.le l37) hs (k30.trans l37) h30 hbd (by omega) ⟨hu0, by omega⟩ (by omega) (by omega) hy)⟩
        · refine s.new fun y10 C10 hy10 h10 p10 o10 n10 l s k10 => ?_
          have k33 := k33.trans l
          repeat' (first | simp -implicitDefEqProofs only [zG1,zG2,zG3,zG4,zG5,zG6,zG7,eq_self,resV,rval,X.val,binv,fillL,setR,↓reduceIte,Nat.reduceEqDiff,Nat.reduceAdd,Nat.reduceMul,Nat.reduceLeDiff,Nat.reduceLT,Nat.reduceSub,reduceCtorEq,zGq, s.lp])
          refine s.leaf fun A29 c29 C29 l s => ?_
          have k33 := k33.trans l
          have k10 := k10.trans l
          repeat' (first | simp -implicitDefEqProofs only [zG1,zG2,zG3,zG4,zG5,zG6,zG7,eq_self,resV,rval,X.val,binv,fillL,setR,↓reduceIte,Nat.reduceEqDiff,Nat.reduceAdd,Nat.reduceMul,Nat.reduceLeDiff,Nat.reduceLT,Nat.reduceSub,reduceCtorEq,zGq, s.lp])
          refine l4Both_ok _ _ _ 5 (.mk 13 3 []) (.mk 0 (1 + u) []) A25 A29 c25 c29 (fun z30 C30 t30 cc30 l hz30 k30 => ?_)
          have h30 := s.d.nov hz30
          have o30 := s.off hz30
          have s := s.le l
          have x30 : ¬ z30 = y10 := fun e => k10.ne (e ▸ hz30)
          have k33 := k33.trans l
          have k10 := k10.trans l
          repeat' (first | simp -implicitDefEqProofs only [zG1,zG2,zG3,zG4,zG5,zG6,zG7,eq_self,resV,rval,X.val,binv,fillL,setR,↓reduceIte,Nat.reduceEqDiff,Nat.reduceAdd,Nat.reduceMul,Nat.reduceLeDiff,Nat.reduceLT,Nat.reduceSub,reduceCtorEq,zGq, s.lp])
          refine s.more k33 (by omega) rfl fun A34 c34 C34 bs34 hc hn s => ?_
          have o34 := off_app k10 o10 hn
          have k10 := k10.chg hc o10
          have o10 := o34
          have k30 := k30.chg hc o30
          repeat' (first | simp -implicitDefEqProofs only [zG1,zG2,zG3,zG4,zG5,zG6,zG7,eq_self,resV,rval,X.val,binv,fillL,setR,↓reduceIte,Nat.reduceEqDiff,Nat.reduceAdd,Nat.reduceMul,Nat.reduceLeDiff,Nat.reduceLT,Nat.reduceSub,reduceCtorEq,zGq, s.lp])
          refine s.put k10 h10 p10 o10 (by simp [ocI, ocS]) fun C40 hc s cs => ?_
          have k30 := k30.chg hc (by simpa using x30)
          repeat' (first | simp -implicitDefEqProofs only [zG1,zG2,zG3,zG4,zG5,zG6,zG7,eq_self,resV,rval,X.val,binv,fillL,setR,↓reduceIte,Nat.reduceEqDiff,Nat.reduceAdd,Nat.reduceMul,Nat.reduceLeDiff,Nat.reduceLT,Nat.reduceSub,reduceCtorEq,zGq, s.lp, cs] | (with_reducible refine draw_at C40 (.refl _) ?_) | (with_reducible refine l4Leaf_ok _ _ _ _ _ (fun A37 c37 C37 l37 => ?_)) | (with_reducible refine ⟨l37, ?_⟩) | (with_reducible refine rows_intro (fun y hy => ?_)))
          exact ⟨l37.trans ((AHeap.le.refl C37).fresh hy _), ret_same (finL (A37 := A37) (c37 := c37) h (s.le l37) hs (k30.trans l37) h30 hbd (by omega) ⟨hu0, by omega⟩ (by omega) (by omega) hy)⟩
      · refine s.new fun y10 C10 hy10 h10 p10 o10 n10 l s k10 => ?_
        have k33 := k33.trans l
        repeat' (first | simp -implicitDefEqProofs only [zG1,zG2,zG3,zG4,zG5,zG6,zG7,eq_self,resV,rval,X.val,binv,fillL,setR,↓reduceIte,Nat.reduceEqDiff,Nat.reduceAdd,Nat.reduceMul,Nat.reduceLeDiff,Nat.reduceLT,Nat.reduceSub,reduceCtorEq,zGq, s.lp])
        refine pickK_ok _ _ s.r 3 (by omega) (by omega) (by decide) (fun u C27 r27 d27 hu0 hu1 => ?_)
        have s := s.pick r27 d27
        have k33 := d27.kn k33 n33
        have k10 := d27.kn k10 n10
        have w3 := pl1 hu0 hu1
        repeat' (first | simp -implicitDefEqProofs only [zG1,zG2,zG3,zG4,zG5,zG6,zG7,eq_self,resV,rval,X.val,binv,fillL,setR,↓reduceIte,Nat.reduceEqDiff,Nat.reduceAdd,Nat.reduceMul,Nat.reduceLeDiff,Nat.reduceLT,Nat.reduceSub,reduceCtorEq,zGq, s.lp, w3])
        refine s.leaf fun A29 c29 C29 l s => ?_
        have k33 := k33.trans l
        have k10 := k10.trans l
        repeat' (first | simp -implicitDefEqProofs only [zG1,zG2,zG3,zG4,zG5,zG6,zG7,eq_self,resV,rval,X.val,binv,fillL,setR,↓reduceIte,Nat.reduceEqDiff,Nat.reduceAdd,Nat.reduceMul,Nat.reduceLeDiff,Nat.reduceLT,Nat.reduceSub,reduceCtorEq,zGq, s.lp])
        refine l4Both_ok _ _ _ 5 (.mk 13 3 []) (.mk 0 (1 + u) []) A25 A29 c25 c29 (fun z30 C30 t30 cc30 l hz30 k30 => ?_)
        have h30 := s.d.nov hz30
        have o30 := s.off hz30
        have s := s.le l
        have x30 : ¬ z30 = y10 := fun e => k10.ne (e ▸ hz30)
        have k33 := k33.trans l
        have k10 := k10.trans l
        repeat' (first | simp -implicitDefEqProofs only [zG1,zG2,zG3,zG4,zG5,zG6,zG7,eq_self,resV,rval,X.val,binv,fillL,setR,↓reduceIte,Nat.reduceEqDiff,Nat.reduceAdd,Nat.reduceMul,Nat.reduceLeDiff,Nat.reduceLT,Nat.reduceSub,reduceCtorEq,zGq, s.lp])
        refine s.more k33 (by omega) rfl fun A34 c34 C34 bs34 hc hn s => ?_
        have o34 := off_app k10 o10 hn
        have k10 := k10.chg hc o10
        have o10 := o34
        have k30 := k30.chg hc o30
        repeat' (first | simp -implicitDefEqProofs only [zG1,zG2,zG3,zG4,zG5,zG6,zG7,eq_self,resV,rval,X.val,binv,fillL,setR,↓reduceIte,Nat.reduceEqDiff,Nat.reduceAdd,Nat.reduceMul,Nat.reduceLeDiff,Nat.reduceLT,Nat.reduceSub,reduceCtorEq,zGq, s.lp])
        refine s.put k10 h10 p10 o10 (by simp [ocI, ocS]) fun C40 hc s cs => ?_
        have k30 := k30.chg hc (by simpa using x30)
        repeat' (first | simp -implicitDefEqProofs only [zG1,zG2,zG3,zG4,zG5,zG6,zG7,eq_self,resV,rval,X.val,binv,fillL,setR,↓reduceIte,Nat.reduceEqDiff,Nat.reduceAdd,Nat.reduceMul,Nat.reduceLeDiff,Nat.reduceLT,Nat.reduceSub,reduceCtorEq,zGq, s.lp, cs] | (with_reducible refine draw_at C40 (.refl _) ?_) | (with_reducible refine l4Leaf_ok _ _ _ _ _ (fun A37 c37 C37 l37 => ?_)) | (with_reducible refine ⟨l37, ?_⟩) | (with_reducible refine rows_intro (fun y hy => ?_)))
        exact ⟨l37.trans ((AHeap.le.refl C37).fresh hy _), ret_same (finL (A37 := A37) (c37 := c37) h (s.le l37) hs (k30.trans l37) h30 hbd (by omega) ⟨hu0, by omega⟩ (by omega) (by omega) hy)⟩
    · refine s.new fun y10 C10 hy10 h10 p10 o10 n10 l s k10 => ?_
      have k33 := k33.trans l
      repeat' (first | simp -implicitDefEqProofs only [zG1,zG2,zG3,zG4,zG5,zG6,zG7,eq_self,resV,rval,X.val,binv,fillL,setR,↓reduceIte,Nat.reduceEqDiff,Nat.reduceAdd,Nat.reduceMul,Nat.reduceLeDiff,Nat.reduceLT,Nat.reduceSub,reduceCtorEq,zGq, s.lp])
      refine s.leaf fun A25 c25 C25 l s => ?_
      have k33 := k33.trans l
      have k10 := k10.trans l
      repeat' (first | simp -implicitDefEqProofs only [zG1,zG2,zG3,zG4,zG5,zG6,zG7,eq_self,resV,rval,X.val,binv,fillL,setR,↓reduceIte,Nat.reduceEqDiff,Nat.reduceAdd,Nat.reduceMul,Nat.reduceLeDiff,Nat.reduceLT,Nat.reduceSub,reduceCtorEq,zGq, s.lp])
      refine pickK_ok _ _ s.r 3 (by omega) (by omega) (by decide) (fun u C27 r27 d27 hu0 hu1 => ?_)
      have s := s.pick r27 d27
      have k33 := d27.kn k33 n33
      have k10 := d27.kn k10 n10
      have w3 := pl1 hu0 hu1
      repeat' (first | simp -implicitDefEqProofs only [zG1,zG2,zG3,zG4,zG5,zG6,zG7,eq_self,resV,rval,X.val,binv,fillL,setR,↓reduceIte,Nat.reduceEqDiff,Nat.reduceAdd,Nat.reduceMul,Nat.reduceLeDiff,Nat.reduceLT,Nat.reduceSub,reduceCtorEq,zGq, s.lp, w3])
      refine s.leaf fun A29 c29 C29 l s => ?_
      have k33 := k33.trans l
      have k10 := k10.trans l
      repeat' (first | simp -implicitDefEqProofs only [zG1,zG2,zG3,zG4,zG5,zG6,zG7,eq_self,resV,rval,X.val,binv,fillL,setR,↓reduceIte,Nat.reduceEqDiff,Nat.reduceAdd,Nat.reduceMul,Nat.reduceLeDiff,Nat.reduceLT,Nat.reduceSub,reduceCtorEq,zGq, s.lp])
      refine l4Both_ok _ _ _ 5 (.mk 13 3 []) (.mk 0 (1 + u) []) A25 A29 c25 c29 (fun z30 C30 t30 cc30 l hz30 k30 => ?_)
      have h30 := s.d.nov hz30
      have o30 := s.off hz30
      have s := s.le l
      have x30 : ¬ z30 = y10 := fun e => k10.ne (e ▸ hz30)
      have k33 := k33.trans l
      have k10 := k10.trans l
      repeat' (first | simp -implicitDefEqProofs only [zG1,zG2,zG3,zG4,zG5,zG6,zG7,eq_self,resV,rval,X.val,binv,fillL,setR,↓reduceIte,Nat.reduceEqDiff,Nat.reduceAdd,Nat.reduceMul,Nat.reduceLeDiff,Nat.reduceLT,Nat.reduceSub,reduceCtorEq,zGq, s.lp])
      refine s.more k33 (by omega) rfl fun A34 c34 C34 bs34 hc hn s => ?_
      have o34 := off_app k10 o10 hn
      have k10 := k10.chg hc o10
      have o10 := o34
      have k30 := k30.chg hc o30
      repeat' (first | simp -implicitDefEqProofs only [zG1,zG2,zG3,zG4,zG5,zG6,zG7,eq_self,resV,rval,X.val,binv,fillL,setR,↓reduceIte,Nat.reduceEqDiff,Nat.reduceAdd,Nat.reduceMul,Nat.reduceLeDiff,Nat.reduceLT,Nat.reduceSub,reduceCtorEq,zGq, s.lp])
      refine s.put k10 h10 p10 o10 (by simp [ocI, ocS]) fun C40 hc s cs => ?_
      have k30 := k30.chg hc (by simpa using x30)
      repeat' (first | simp -implicitDefEqProofs only [zG1,zG2,zG3,zG4,zG5,zG6,zG7,eq_self,resV,rval,X.val,binv,fillL,setR,↓reduceIte,Nat.reduceEqDiff,Nat.reduceAdd,Nat.reduceMul,Nat.reduceLeDiff,Nat.reduceLT,Nat.reduceSub,reduceCtorEq,zGq, s.lp, cs] | (with_reducible refine draw_at C40 (.refl _) ?_) | (with_reducible refine l4Leaf_ok _ _ _ _ _ (fun A37 c37 C37 l37 => ?_)) | (with_reducible refine ⟨l37, ?_⟩) | (with_reducible refine rows_intro (fun y hy => ?_)))
      exact ⟨l37.trans ((AHeap.le.refl C37).fresh hy _), ret_same (finL (A37 := A37) (c37 := c37) h (s.le l37) hs (k30.trans l37) h30 hbd (by omega) ⟨hu0, by omega⟩ (by omega) (by omega) hy)⟩
  · refine s.new fun y10 C10 hy10 h10 p10 o10 n10 l s k10 => ?_
    repeat' (first | simp -implicitDefEqProofs only [zG1,zG2,zG3,zG4,zG5,zG6,zG7,eq_self,resV,rval,X.val,binv,fillL,setR,↓reduceIte,Nat.reduceEqDiff,Nat.reduceAdd,Nat.reduceMul,Nat.reduceLeDiff,Nat.reduceLT,Nat.reduceSub,reduceCtorEq,zGq, s.lp])
    refine ⟨?_, ?_⟩
    · refine s.leaf fun A25 c25 C25 l s => ?_
      have k10 := k10.trans l
      repeat' (first | simp -implicitDefEqProofs only [zG1,zG2,zG3,zG4,zG5,zG6,zG7,eq_self,resV,rval,X.val,binv,fillL,setR,↓reduceIte,Nat.reduceEqDiff,Nat.reduceAdd,Nat.reduceMul,Nat.reduceLeDiff,Nat.reduceLT,Nat.reduceSub,reduceCtorEq,zGq, s.lp])
      refine ⟨?_, ?_⟩
      · refine pickK_ok _ _ s.r 3 (by omega) (by omega) (by decide) (fun u C27 r27 d27 hu0 hu1 => ?_)
        have s := s.pick r27 d27
        have k10 := d27.kn k10 n10
        have w3 := pl1 hu0 hu1
        repeat' (first | simp -implicitDefEqProofs only [zG1,zG2,zG3,zG4,zG5,zG6,zG7,eq_self,resV,rval,X.val,binv,fillL,setR,↓reduceIte,Nat.reduceEqDiff,Nat.reduceAdd,Nat.reduceMul,Nat.reduceLeDiff,Nat.reduceLT,Nat.reduceSub,reduceCtorEq,zGq, s.lp, w3])
        refine ⟨?_, ?_⟩
        · refine s.leaf fun A29 c29 C29 l s => ?_
          have k10 := k10.trans l
          repeat' (first | simp -implicitDefEqProofs only [zG1,zG2,zG3,zG4,zG5,zG6,zG7,eq_self,resV,rval,X.val,binv,fillL,setR,↓reduceIte,Nat.reduceEqDiff,Nat.reduceAdd,Nat.reduceMul,Nat.reduceLeDiff,Nat.reduceLT,Nat.reduceSub,reduceCtorEq,zGq, s.lp])
          refine ⟨?_, ?_⟩
          · refine l4Both_ok _ _ _ 5 (.mk 13 3 []) (.mk 0 (1 + u) []) A25 A29 c25 c29 (fun z30 C30 t30 cc30 l hz30 k30 => ?_)
            have h30 := s.d.nov hz30
            have o30 := s.off hz30
            have s := s.le l
            have x30 : ¬ z30 = y10 := fun e => k10.ne (e ▸ hz30)
            have k10 := k10.trans l
            repeat' (first | simp -implicitDefEqProofs only [zG1,zG2,zG3,zG4,zG5,zG6,zG7,eq_self,resV,rval,X.val,binv,fillL,setR,↓reduceIte,Nat.reduceEqDiff,Nat.reduceAdd,Nat.reduceMul,Nat.reduceLeDiff,Nat.reduceLT,Nat.reduceSub,reduceCtorEq,zGq, s.lp])
            refine s.lit fun y33 C33 n33 l s k33 => ?_
            have k10 := k10.trans l
            have k30 := k30.trans l
            repeat' (first | simp -implicitDefEqProofs only [zG1,zG2,zG3,zG4,zG5,zG6,zG7,eq_self,resV,rval,X.val,binv,fillL,setR,↓reduceIte,Nat.reduceEqDiff,Nat.reduceAdd,Nat.reduceMul,Nat.reduceLeDiff,Nat.reduceLT,Nat.reduceSub,reduceCtorEq,zGq, s.lp])
            refine s.more k33 (by omega) rfl fun A34 c34 C34 bs34 hc hn s => ?_
            have o34 := off_app k10 o10 hn
            have k10 := k10.chg hc o10
            have o10 := o34
            have k30 := k30.chg hc o30
            repeat' (first | simp -implicitDefEqProofs only [zG1,zG2,zG3,zG4,zG5,zG6,zG7,eq_self,resV,rval,X.val,binv,fillL,setR,↓reduceIte,Nat.reduceEqDiff,Nat.reduceAdd,Nat.reduceMul,Nat.reduceLeDiff,Nat.reduceLT,Nat.reduceSub,reduceCtorEq,zGq, s.lp])
            refine s.put k10 h10 p10 o10 (by simp [ocI, ocS]) fun C40 hc s cs => ?_
            have k30 := k30.chg hc (by simpa using x30)
            repeat' (first | simp -implicitDefEqProofs only [zG1,zG2,zG3,zG4,zG5,zG6,zG7,eq_self,resV,rval,X.val,binv,fillL,setR,↓reduceIte,Nat.reduceEqDiff,Nat.reduceAdd,Nat.reduceMul,Nat.reduceLeDiff,Nat.reduceLT,Nat.reduceSub,reduceCtorEq,zGq, s.lp, cs] | (with_reducible refine draw_at C40 (.refl _) ?_) | (with_reducible refine l4Leaf_ok _ _ _ _ _ (fun A37 c37 C37 l37 => ?_)) | (with_reducible refine ⟨l37, ?_⟩) | (with_reducible refine rows_intro (fun y hy => ?_)))
            exact ⟨l37.trans ((AHeap.le.refl C37).fresh hy _), ret_same (finL (A37 := A37) (c37 := c37) h (s.le l37) hs (k30.trans l37) h30 hbd (by omega) ⟨hu0, by omega⟩ (by omega) (by omega) hy)⟩
          · refine s.lit fun y33 C33 n33 l s k33 => ?_
            have k10 := k10.trans l
            repeat' (first | simp -implicitDefEqProofs only [zG1,zG2,zG3,zG4,zG5,zG6,zG7,eq_self,resV,rval,X.val,binv,fillL,setR,↓reduceIte,Nat.reduceEqDiff,Nat.reduceAdd,Nat.reduceMul,Nat.reduceLeDiff,Nat.reduceLT,Nat.reduceSub,reduceCtorEq,zGq, s.lp])
            refine l4Both_ok _ _ _ 5 (.mk 13 3 []) (.mk 0 (1 + u) []) A25 A29 c25 c29 (fun z30 C30 t30 cc30 l hz30 k30 => ?_)
            have h30 := s.d.nov hz30
            have o30 := s.off hz30
            have s := s.le l
            have x30 : ¬ z30 = y10 := fun e => k10.ne (e ▸ hz30)
            have k33 := k33.trans l
            have k10 := k10.trans l
            repeat' (first | simp -implicitDefEqProofs only [zG1,zG2,zG3,zG4,zG5,zG6,zG7,eq_self,resV,rval,X.val,binv,fillL,setR,↓reduceIte,Nat.reduceEqDiff,Nat.reduceAdd,Nat.reduceMul,Nat.reduceLeDiff,Nat.reduceLT,Nat.reduceSub,reduceCtorEq,zGq, s.lp])
            refine s.more k33 (by omega) rfl fun A34 c34 C34 bs34 hc hn s => ?_
            have o34 := off_app k10 o10 hn
            have k10 := k10.chg hc o10
            have o10 := o34
            have k30 := k30.chg hc o30
            repeat' (first | simp -implicitDefEqProofs only [zG1,zG2,zG3,zG4,zG5,zG6,zG7,eq_self,resV,rval,X.val,binv,fillL,setR,↓reduceIte,Nat.reduceEqDiff,Nat.reduceAdd,Nat.reduceMul,Nat.reduceLeDiff,Nat.reduceLT,Nat.reduceSub,reduceCtorEq,zGq, s.lp])
            refine s.put k10 h10 p10 o10 (by simp [ocI, ocS]) fun C40 hc s cs => ?_
            have k30 := k30.chg hc (by simpa using x30)
            repeat' (first | simp -implicitDefEqProofs only [zG1,zG2,zG3,zG4,zG5,zG6,zG7,eq_self,resV,rval,X.val,binv,fillL,setR,↓reduceIte,Nat.reduceEqDiff,Nat.reduceAdd,Nat.reduceMul,Nat.reduceLeDiff,Nat.reduceLT,Nat.reduceSub,reduceCtorEq,zGq, s.lp, cs] | (with_reducible refine draw_at C40 (.refl _) ?_) | (with_reducible refine l4Leaf_ok _ _ _ _ _ (fun A37 c37 C37 l37 => ?_)) | (with_reducible refine ⟨l37, ?_⟩) | (with_reducible refine rows_intro (fun y hy => ?_)))
            exact ⟨l37.trans ((AHeap.le.refl C37).fresh hy _), ret_same (finL (A37 := A37) (c37 := c37) h (s.le l37) hs (k30.trans l37) h30 hbd (by omega) ⟨hu0, by omega⟩ (by omega) (by omega) hy)⟩
        · refine s.lit fun y33 C33 n33 l s k33 => ?_
          have k10 := k10.trans l
          repeat' (first | simp -implicitDefEqProofs only [zG1,zG2,zG3,zG4,zG5,zG6,zG7,eq_self,resV,rval,X.val,binv,fillL,setR,↓reduceIte,Nat.reduceEqDiff,Nat.reduceAdd,Nat.reduceMul,Nat.reduceLeDiff,Nat.reduceLT,Nat.reduceSub,reduceCtorEq,zGq, s.lp])
          refine s.leaf fun A29 c29 C29 l s => ?_
          have k33 := k33.trans l
          have k10 := k10.trans l
          repeat' (first | simp -implicitDefEqProofs only [zG1,zG2,zG3,zG4,zG5,zG6,zG7,eq_self,resV,rval,X.val,binv,fillL,setR,↓reduceIte,Nat.reduceEqDiff,Nat.reduceAdd,Nat.reduceMul,Nat.reduceLeDiff,Nat.reduceLT,Nat.reduceSub,reduceCtorEq,zGq, s.lp])
          refine l4Both_ok _ _ _ 5 (.mk 13 3 []) (.mk 0 (1 + u) []) A25 A29 c25 c29 (fun z30 C30 t30 cc30 l hz30 k30 => ?_)
          have h30 := s.d.nov hz30
          have o30 := s.off hz30
          have s := s.le l
          have x30 : ¬ z30 = y10 := fun e => k10.ne (e ▸ hz30)
          have k33 := k33.trans l
          have k10 := k10.trans l
          repeat' (first | simp -implicitDefEqProofs only [zG1,zG2,zG3,zG4,zG5,zG6,zG7,eq_self,resV,rval,X.val,binv,fillL,setR,↓reduceIte,Nat.reduceEqDiff,Nat.reduceAdd,Nat.reduceMul,Nat.reduceLeDiff,Nat.reduceLT,Nat.reduceSub,reduceCtorEq,zGq, s.lp])
          refine s.more k33 (by omega) rfl fun A34 c34 C34 bs34 hc hn s => ?_
          have o34 := off_app k10 o10 hn
          have k10 := k10.chg hc o10
          have o10 := o34
          have k30 := k30.chg hc o30
          repeat' (first | simp -implicitDefEqProofs only [zG1,zG2,zG3,zG4,zG5,zG6,zG7,eq_self,resV,rval,X.val,binv,fillL,setR,↓reduceIte,Nat.reduceEqDiff,Nat.reduceAdd,Nat.reduceMul,Nat.reduceLeDiff,Nat.reduceLT,Nat.reduceSub,reduceCtorEq,zGq, s.lp])
          refine s.put k10 h10 p10 o10 (by simp [ocI, ocS]) fun C40 hc s cs => ?_
          have k30 := k30.chg hc (by simpa using x30)
          repeat' (first | simp -implicitDefEqProofs only [zG1,zG2,zG3,zG4,zG5,zG6,zG7,eq_self,resV,rval,X.val,binv,fillL,setR,↓reduceIte,Nat.reduceEqDiff,Nat.reduceAdd,Nat.reduceMul,Nat.reduceLeDiff,Nat.reduceLT,Nat.reduceSub,reduceCtorEq,zGq, s.lp, cs] | (with_reducible refine draw_at C40 (.refl _) ?_) | (with_reducible refine l4Leaf_ok _ _ _ _ _ (fun A37 c37 C37 l37 => ?_)) | (with_reducible refine ⟨l37, ?_⟩) | (with_reducible refine rows_intro (fun y hy => ?_)))
          exact ⟨l37.trans ((AHeap.le.refl C37).fresh hy _), ret_same (finL (A37 := A37) (c37 := c37) h (s.le l37) hs (k30.trans l37) h30 hbd (by omega) ⟨hu0, by omega⟩ (by omega) (by omega) hy)⟩
      · refine s.lit fun y33 C33 n33 l s k33 => ?_
        have k10 := k10.trans l
        repeat' (first | simp -implicitDefEqProofs only [zG1,zG2,zG3,zG4,zG5,zG6,zG7,eq_self,resV,rval,X.val,binv,fillL,setR,↓reduceIte,Nat.reduceEqDiff,Nat.reduceAdd,Nat.reduceMul,Nat.reduceLeDiff,Nat.reduceLT,Nat.reduceSub,reduceCtorEq,zGq, s.lp])
        refine pickK_ok _ _ s.r 3 (by omega) (by omega) (by decide) (fun u C27 r27 d27 hu0 hu1 => ?_)
        have s := s.pick r27 d27
        have k33 := d27.kn k33 n33
        have k10 := d27.kn k10 n10
        have w3 := pl1 hu0 hu1
        repeat' (first | simp -implicitDefEqProofs only [zG1,zG2,zG3,zG4,zG5,zG6,zG7,eq_self,resV,rval,X.val,binv,fillL,setR,↓reduceIte,Nat.reduceEqDiff,Nat.reduceAdd,Nat.reduceMul,Nat.reduceLeDiff,Nat.reduceLT,Nat.reduceSub,reduceCtorEq,zGq, s.lp, w3])
        refine s.leaf fun A29 c29 C29 l s => ?_
        have k33 := k33.trans l
        have k10 := k10.trans l
        repeat' (first | simp -implicitDefEqProofs only [zG1,zG2,zG3,zG4,zG5,zG6,zG7,eq_self,resV,rval,X.val,binv,fillL,setR,↓reduceIte,Nat.reduceEqDiff,Nat.reduceAdd,Nat.reduceMul,Nat.reduceLeDiff,Nat.reduceLT,Nat.reduceSub,reduceCtorEq,zGq, s.lp])
        refine l4Both_ok _ _ _ 5 (.mk 13 3 []) (.mk 0 (1 + u) []) A25 A29 c25 c29 (fun z30 C30 t30 cc30 l hz30 k30 => ?_)
        have h30 := s.d.nov hz30
        have o30 := s.off hz30
        have s := s.le l
        have x30 : ¬ z30 = y10 := fun e => k10.ne (e ▸ hz30)
        have k33 := k33.trans l
        have k10 := k10.trans l
        repeat' (first | simp -implicitDefEqProofs only [zG1,zG2,zG3,zG4,zG5,zG6,zG7,eq_self,resV,rval,X.val,binv,fillL,setR,↓reduceIte,Nat.reduceEqDiff,Nat.reduceAdd,Nat.reduceMul,Nat.reduceLeDiff,Nat.reduceLT,Nat.reduceSub,reduceCtorEq,zGq, s.lp])
        refine s.more k33 (by omega) rfl fun A34 c34 C34 bs34 hc hn s => ?_
        have o34 := off_app k10 o10 hn
        have k10 := k10.chg hc o10
        have o10 := o34
        have k30 := k30.chg hc o30
        repeat' (first | simp -implicitDefEqProofs only [zG1,zG2,zG3,zG4,zG5,zG6,zG7,eq_self,resV,rval,X.val,binv,fillL,setR,↓reduceIte,Nat.reduceEqDiff,Nat.reduceAdd,Nat.reduceMul,Nat.reduceLeDiff,Nat.reduceLT,Nat.reduceSub,reduceCtorEq,zGq, s.lp])
        refine s.put k10 h10 p10 o10 (by simp [ocI, ocS]) fun C40 hc s cs => ?_
        have k30 := k30.chg hc (by simpa using x30)
        repeat' (first | simp -implicitDefEqProofs only [zG1,zG2,zG3,zG4,zG5,zG6,zG7,eq_self,resV,rval,X.val,binv,fillL,setR,↓reduceIte,Nat.reduceEqDiff,Nat.reduceAdd,Nat.reduceMul,Nat.reduceLeDiff,Nat.reduceLT,Nat.reduceSub,reduceCtorEq,zGq, s.lp, cs] | (with_reducible refine draw_at C40 (.refl _) ?_) | (with_reducible refine l4Leaf_ok _ _ _ _ _ (fun A37 c37 C37 l37 => ?_)) | (with_reducible refine ⟨l37, ?_⟩) | (with_reducible refine rows_intro (fun y hy => ?_)))
        exact ⟨l37.trans ((AHeap.le.refl C37).fresh hy _), ret_same (finL (A37 := A37) (c37 := c37) h (s.le l37) hs (k30.trans l37) h30 hbd (by omega) ⟨hu0, by omega⟩ (by omega) (by omega) hy)⟩
    · refine s.lit fun y33 C33 n33 l s k33 => ?_
      have k10 := k10.trans l
      repeat' (first | simp -implicitDefEqProofs only [zG1,zG2,zG3,zG4,zG5,zG6,zG7,eq_self,resV,rval,X.val,binv,fillL,setR,↓reduceIte,Nat.reduceEqDiff,Nat.reduceAdd,Nat.reduceMul,Nat.reduceLeDiff,Nat.reduceLT,Nat.reduceSub,reduceCtorEq,zGq, s.lp])
      refine s.leaf fun A25 c25 C25 l s => ?_
      have k33 := k33.trans l
      have k10 := k10.trans l
      repeat' (first | simp -implicitDefEqProofs only [zG1,zG2,zG3,zG4,zG5,zG6,zG7,eq_self,resV,rval,X.val,binv,fillL,setR,↓reduceIte,Nat.reduceEqDiff,Nat.reduceAdd,Nat.reduceMul,Nat.reduceLeDiff,Nat.reduceLT,Nat.reduceSub,reduceCtorEq,zGq, s.lp])
      refine pickK_ok _ _ s.r 3 (by omega) (by omega) (by decide) (fun u C27 r27 d27 hu0 hu1 => ?_)
      have s := s.pick r27 d27
      have k33 := d27.kn k33 n33
      have k10 := d27.kn k10 n10
      have w3 := pl1 hu0 hu1
      repeat' (first | simp -implicitDefEqProofs only [zG1,zG2,zG3,zG4,zG5,zG6,zG7,eq_self,resV,rval,X.val,binv,fillL,setR,↓reduceIte,Nat.reduceEqDiff,Nat.reduceAdd,Nat.reduceMul,Nat.reduceLeDiff,Nat.reduceLT,Nat.reduceSub,reduceCtorEq,zGq, s.lp, w3])
      refine s.leaf fun A29 c29 C29 l s => ?_
      have k33 := k33.trans l
      have k10 := k10.trans l
      repeat' (first | simp -implicitDefEqProofs only [zG1,zG2,zG3,zG4,zG5,zG6,zG7,eq_self,resV,rval,X.val,binv,fillL,setR,↓reduceIte,Nat.reduceEqDiff,Nat.reduceAdd,Nat.reduceMul,Nat.reduceLeDiff,Nat.reduceLT,Nat.reduceSub,reduceCtorEq,zGq, s.lp])
      refine l4Both_ok _ _ _ 5 (.mk 13 3 []) (.mk 0 (1 + u) []) A25 A29 c25 c29 (fun z30 C30 t30 cc30 l hz30 k30 => ?_)
      have h30 := s.d.nov hz30
      have o30 := s.off hz30
      have s := s.le l
      have x30 : ¬ z30 = y10 := fun e => k10.ne (e ▸ hz30)
      have k33 := k33.trans l
      have k10 := k10.trans l
      repeat' (first | simp -implicitDefEqProofs only [zG1,zG2,zG3,zG4,zG5,zG6,zG7,eq_self,resV,rval,X.val,binv,fillL,setR,↓reduceIte,Nat.reduceEqDiff,Nat.reduceAdd,Nat.reduceMul,Nat.reduceLeDiff,Nat.reduceLT,Nat.reduceSub,reduceCtorEq,zGq, s.lp])
      refine s.more k33 (by omega) rfl fun A34 c34 C34 bs34 hc hn s => ?_
      have o34 := off_app k10 o10 hn
      have k10 := k10.chg hc o10
      have o10 := o34
      have k30 := k30.chg hc o30
      repeat' (first | simp -implicitDefEqProofs only [zG1,zG2,zG3,zG4,zG5,zG6,zG7,eq_self,resV,rval,X.val,binv,fillL,setR,↓reduceIte,Nat.reduceEqDiff,Nat.reduceAdd,Nat.reduceMul,Nat.reduceLeDiff,Nat.reduceLT,Nat.reduceSub,reduceCtorEq,zGq, s.lp])
      refine s.put k10 h10 p10 o10 (by simp [ocI, ocS]) fun C40 hc s cs => ?_
      have k30 := k30.chg hc (by simpa using x30)
      repeat' (first | simp -implicitDefEqProofs only [zG1,zG2,zG3,zG4,zG5,zG6,zG7,eq_self,resV,rval,X.val,binv,fillL,setR,↓reduceIte,Nat.reduceEqDiff,Nat.reduceAdd,Nat.reduceMul,Nat.reduceLeDiff,Nat.reduceLT,Nat.reduceSub,reduceCtorEq,zGq, s.lp, cs] | (with_reducible refine draw_at C40 (.refl _) ?_) | (with_reducible refine l4Leaf_ok _ _ _ _ _ (fun A37 c37 C37 l37 => ?_)) | (with_reducible refine ⟨l37, ?_⟩) | (with_reducible refine rows_intro (fun y hy => ?_)))
      exact ⟨l37.trans ((AHeap.le.refl C37).fresh hy _), ret_same (finL (A37 := A37) (c37 := c37) h (s.le l37) hs (k30.trans l37) h30 hbd (by omega) ⟨hu0, by omega⟩ (by omega) (by omega) hy)⟩
end Go.Proofs.Ytjhedgoafkabiaa
namespace Go.Proofs.Ytjhedgoafkabiaa
set_option linter.all false
open Go Go.RowKit
set_option maxRecDepth 100000
variable (w0 : World)
abbrev StmP (d : Nat) : Prop := ∀ (S : Src) (b : Nat) (H : AHeap) (K : Value → AHeap → Prop) (p B : Int) (loops : Bool), RdK S H b p → B ≤ 3 → 0 ≤ p → p + pB d ≤ 1099511600000 → OutL S b H p d (cB d) (pB d) K →
  ACalls Try.prog w0 83 [.pointer (some ⟨b, 0, none⟩), .int .i64 B, .int .i64 d, .bool loops] H K
theorem lit_one {S : Src} {H C : AHeap} {b y : Nat} {p q : Int} {cm pm d : Nat} {K : Value → AHeap → Prop} (h : OutL S b H p d cm pm K) (s : St) {A0 : Option Addr} {c0 : Nat} {A1 : Option Addr} {c1 : Nat} {A2 : Option Addr} {c2 : Nat} (hr : RdK S C b q) (hd : Dr H C b)
    (hs : StV (C.off H) s (stc s.kind s.var s.box s.e s.body.length s.els.length A0 c0 A1 c1 A2 c2)) (ho : stOk d s = true) (hc : s.cnt ≤ cm) (hp0 : p ≤ q) (hp1 : q ≤ p + pm) (hy : C y = none) :
    K (.slice (some ⟨y, 0, none⟩) 1 1) (C.set y ⟨stc s.kind s.var s.box s.e s.body.length s.els.length A0 c0 A1 c1 A2 c2, true, 63, 8⟩) := by
  have ly := (AHeap.le.refl C).fresh hy ⟨stc s.kind s.var s.box s.e s.body.length s.els.length A0 c0 A1 c1 A2 c2, true, 63, 8⟩
  have ky := kn_off (H := H) (hd.nov hy) (Kn.same C y ⟨stc s.kind s.var s.box s.e s.body.length s.els.length A0 c0 A1 c1 A2 c2, true, 63, 8⟩)
  refine h [s] (some ⟨y, 0, none⟩) 1 _ q (hr.le ly) (hd.then_le ly) ?_ (by simp [ho]) (by simp) (by simp [cntL]; exact hc) hp0 hp1
  exact (StL.one (hs.le (off_sub ly))).str (ky.fl fun _ _ h => h)
theorem stmP_of (d : Nat) (hd3 : d ≤ 3) (ih : ∀ d', d = d' + 1 → BlkP w0 d') : StmP w0 d := by
  intro S b H K p B loops hr hB h0 h1 h
  have hT := pB_ge d
  have hC := cB_ge d
  refine acalls_of_sx mix Try.func83 of83 (by simp [ir83]) ?_; rw [ir83]; (try delta qT qI qC qO qM qG)
  repeat' (first | simp -implicitDefEqProofs only [zG1,zG2,zG3,zG4,zG5,zG6,zG7,eq_self,resV,rval,X.val,binv,fillL,setR,↓reduceIte,Nat.reduceEqDiff,Nat.reduceAdd,Nat.reduceMul,Nat.reduceLeDiff,Nat.reduceLT,Nat.reduceSub,reduceCtorEq,zGq] | ((with_reducible refine rows_intro (fun _ hb => ?_)); try simp only [set_none, ne_eq] at hb) | ((with_reducible refine new_intro (fun _ hb => ?_)); try simp only [set_none, ne_eq] at hb) | (with_reducible refine draw_same ?_) | ((with_reducible refine gd_split ?_ (fun _ => ?_) (fun _ => ?_)); exact rfl) | ((with_reducible refine td_split ?_ (fun _ => ?_) (fun _ => ?_)); exact rfl) | (with_reducible refine c_split (fun _ => ?_) (fun _ => ?_)))
  refine pickK_ok _ _ hr 10 (by omega) (by omega) (by decide) (fun v C1 r1 d1 hv0 hv1 => ?_)
  have one : ∀ (D : Value → AHeap → Prop), (∀ (s : St) (A0 : Option Addr) (c0 : Nat) (A1 : Option Addr) (c1 : Nat) (A2 : Option Addr) (c2 : Nat) (C : AHeap), (∀ y, C y = none → K (.slice (some ⟨y, 0, none⟩) 1 1) (C.set y ⟨stc s.kind s.var s.box s.e s.body.length s.els.length A0 c0 A1 c1 A2 c2, true, 63, 8⟩)) → D (stv s.kind s.var s.box s.e s.body.length s.els.length A0 c0 A1 c1 A2 c2) C) →
      Out1 S b C1 (p + 1) d (cB d) (pB d - 1) D := by
    intro D hD s A0 c0 A1 c1 A2 c2 C2 p2 r2 d2 hs ho hc hp0 hp1
    exact hD s A0 c0 A1 c1 A2 c2 C2 fun y hy => lit_one h s r2 (d1.trans d2) (hs.le (d1.off_r d2)) ho hc (by omega) (by omega) hy
  have print : ∀ (D : Value → AHeap → Prop), (∀ j : Nat, ∀ C3, j < 3 → RdK S C3 b (p + 2) → Dr H C3 b → D (.int .i64 j) C3) → ACalls Try.prog w0 48 [.pointer (some ⟨b, 0, none⟩), .int .i64 3] C1 D := by
    intro D hD
    refine pickK_ok _ _ r1 3 (by omega) (by omega) (by decide) (fun u C3 r3 d3 hu0 hu1 => ?_)
    obtain ⟨j, rfl⟩ := nat3 hu0
    exact hD j C3 (by omega) (by rw [show p + 2 = p + 1 + 1 by omega]; exact r3) (d1.trans d3)
  have pexpr : ∀ (j : Nat) (C3 : AHeap) (D : Value → AHeap → Prop), j < 3 → RdK S C3 b (p + 2) → Dr H C3 b → (∀ (e : Ex) (A : Option Addr) (c : Nat) (C : AHeap), (∀ y, C y = none → K (.slice (some ⟨y, 0, none⟩) 1 1) (C.set y ⟨stc 7 0 0 e 0 0 A c none 0 none 0, true, 63, 8⟩)) → D (.agg #[.int .i64 e.op, .int .i64 e.n, .slice A e.args.length c]) C) →
      ACalls Try.prog w0 73 [.pointer (some ⟨b, 0, none⟩), .int .i64 ((1 + j : Nat) : Int)] C3 D := by
    intro j C3 D hj r3 d3 hD
    have hTj : drT (1 + j) ≤ 45 := by
      match j, hj with
      | 0, _ | 1, _ | 2, _ => decide
    refine l91Expr_ok _ (1 + j) _ _ _ (by omega) r3 (by omega) (by omega) (fun e A c C4 p4 r4 d4 he hE hp0 hp1 => hD e A c C4 fun y hy => ?_)
    have he5 : exprOk 5 e = true := ok_up5 (show max (1 + j) 1 ≤ 5 by omega) he
    exact lit_one h (.mk 7 0 0 e [] []) r4 (d3.trans d4) (stv_simple _ _ _ _ (hE.le (d3.off_r d4))) (ok_simple (by simp [St.kind]) (by simp [St.kind]) (by simp [stSimple, St.kind, St.var, St.box, St.e, St.body, St.els, he5])) (by simp [St.cnt, cntL]; omega) (by omega) (by omega) hy
  have hset : ∀ D, Out1 S b C1 (p + 1) d (cB d) (pB d - 1) D → ACalls Try.prog w0 94 [.pointer (some ⟨b, 0, none⟩)] C1 D := fun D hD =>
    l92Set_ok _ _ r1 (by omega) (by omega) d fun s A0 c0 A1 c1 A2 c2 C2 p2 r2 d2 hs ho hc hp0 hp1 => hD s A0 c0 A1 c1 A2 c2 C2 p2 r2 d2 hs ho (by omega) hp0 (by omega)
  have htalk : ∀ D, Out1 S b C1 (p + 1) d (cB d) (pB d - 1) D → ACalls Try.prog w0 96 [.pointer (some ⟨b, 0, none⟩), .int .i64 B] C1 D := fun D hD =>
    l92Talk_ok _ _ r1 B hB (by omega) (by omega) d fun s A0 c0 A1 c1 A2 c2 C2 p2 r2 d2 hs ho hc hp0 hp1 => hD s A0 c0 A1 c1 A2 c2 C2 p2 r2 d2 hs ho (by omega) hp0 (by omega)
  have fyield : ∀ y, C1 y = none → K (.slice (some ⟨y, 0, none⟩) 1 1) (C1.set y ⟨stc 6 0 0 plain0 0 0 none 0 none 0 none 0, true, 63, 8⟩) := fun y hy =>
    lit_one h (.mk 6 0 0 plain0 [] []) r1 d1 (stv_simple _ _ _ _ (exV_leaf _ _ _ _ _)) (ok_simple (by simp [St.kind]) (by simp [St.kind]) (by simp [stSimple, St.kind, St.var, St.box, St.e, St.body, St.els, plainE, plain0, Ex.op, Ex.n, Ex.args])) (by simp [St.cnt, cntL]; omega) (by omega) (by omega) hy
  cases d with
  | zero =>
    have g0 : decide (((0 : Nat) : Int) > 0) = false := by decide
    repeat' (first | simp -implicitDefEqProofs only [zG1,zG2,zG3,zG4,zG5,zG6,zG7,eq_self,resV,rval,X.val,binv,fillL,setR,↓reduceIte,Nat.reduceEqDiff,Nat.reduceAdd,Nat.reduceMul,Nat.reduceLeDiff,Nat.reduceLT,Nat.reduceSub,reduceCtorEq,zGq, g0] | ((with_reducible refine rows_intro (fun _ hb => ?_)); try simp only [set_none, ne_eq] at hb) | ((with_reducible refine new_intro (fun _ hb => ?_)); try simp only [set_none, ne_eq] at hb) | (with_reducible refine draw_same ?_) | ((with_reducible refine gd_split ?_ (fun _ => ?_) (fun _ => ?_)); exact rfl) | ((with_reducible refine td_split ?_ (fun _ => ?_) (fun _ => ?_)); exact rfl) | (with_reducible refine c_split (fun _ => ?_) (fun _ => ?_)) | (with_reducible refine hset _ (one _ fun s A0 c0 A1 c1 A2 c2 C2 hk => ?_)) | (with_reducible refine htalk _ (one _ fun s A0 c0 A1 c1 A2 c2 C2 hk => ?_)) | (with_reducible refine print _ (fun j C3 hj r3 d3 => ?_)))
    all_goals first
      | exact ret_same (hk _ hb)
      | exact ret_same (fyield _ hb)
      | skip
    all_goals
      have w1 := one_add (j := j) (by omega)
      repeat' (first | simp -implicitDefEqProofs only [zG1,zG2,zG3,zG4,zG5,zG6,zG7,eq_self,resV,rval,X.val,binv,fillL,setR,↓reduceIte,Nat.reduceEqDiff,Nat.reduceAdd,Nat.reduceMul,Nat.reduceLeDiff,Nat.reduceLT,Nat.reduceSub,reduceCtorEq,zGq, w1] | ((with_reducible refine rows_intro (fun _ hb => ?_)); try simp only [set_none, ne_eq] at hb) | ((with_reducible refine new_intro (fun _ hb => ?_)); try simp only [set_none, ne_eq] at hb) | (with_reducible refine draw_same ?_) | ((with_reducible refine gd_split ?_ (fun _ => ?_) (fun _ => ?_)); exact rfl) | ((with_reducible refine td_split ?_ (fun _ => ?_) (fun _ => ?_)); exact rfl) | (with_reducible refine c_split (fun _ => ?_) (fun _ => ?_)) | (with_reducible refine pexpr j _ _ hj r3 d3 (fun e A c C hk => ?_)))
      exact ret_same (hk _ hb)
  | succ d =>
    have g0 : decide (((d + 1 : Nat) : Int) > 0) = true := by simp <;> omega
    have hP : pB (d + 1) = 4 * pB d + 64 := rfl
    have hCB : cB (d + 1) = 4 * cB d + 3 := rfl
    have ihd := ih d rfl
    have hif : ∀ D, Out1 S b C1 (p + 1) (d + 1) (cB (d + 1)) (pB (d + 1) - 1) D → ACalls Try.prog w0 51 [.pointer (some ⟨b, 0, none⟩), .int .i64 B, .int .i64 ((d + 1 : Nat) : Int), .bool loops] C1 D := fun D hD =>
      l92If_ok w0 d (by omega) ihd _ r1 B hB loops (by omega) (by omega) fun s A0 c0 A1 c1 A2 c2 C2 p2 r2 d2 hs ho hc hp0 hp1 => hD s A0 c0 A1 c1 A2 c2 C2 p2 r2 d2 hs ho (by omega) hp0 (by omega)
    have hloop : ∀ D : Value → AHeap → Prop, (∀ (ss : List St) (A : Option Addr) (c : Nat) (C : AHeap), K (.slice A ss.length c) C → D (.slice A ss.length c) C) → ACalls Try.prog w0 95 [.pointer (some ⟨b, 0, none⟩), .int .i64 B, .int .i64 ((d + 1 : Nat) : Int)] C1 D := fun D hD =>
      l92Loop_ok w0 d (by omega) ihd _ r1 B hB (by omega) (by omega) fun ss A c C2 p2 r2 d2 hs ho hl hc hp0 hp1 => hD ss A c C2 (h ss A c C2 p2 r2 (d1.trans d2) (hs.le (d1.off_r d2)) ho hl (by omega) (by omega) (by omega))
    repeat' (first | simp -implicitDefEqProofs only [zG1,zG2,zG3,zG4,zG5,zG6,zG7,eq_self,resV,rval,X.val,binv,fillL,setR,↓reduceIte,Nat.reduceEqDiff,Nat.reduceAdd,Nat.reduceMul,Nat.reduceLeDiff,Nat.reduceLT,Nat.reduceSub,reduceCtorEq,zGq, g0] | ((with_reducible refine rows_intro (fun _ hb => ?_)); try simp only [set_none, ne_eq] at hb) | ((with_reducible refine new_intro (fun _ hb => ?_)); try simp only [set_none, ne_eq] at hb) | (with_reducible refine draw_same ?_) | ((with_reducible refine gd_split ?_ (fun _ => ?_) (fun _ => ?_)); exact rfl) | ((with_reducible refine td_split ?_ (fun _ => ?_) (fun _ => ?_)); exact rfl) | (with_reducible refine c_split (fun _ => ?_) (fun _ => ?_)) | (with_reducible refine hset _ (one _ fun s A0 c0 A1 c1 A2 c2 C2 hk => ?_)) | (with_reducible refine htalk _ (one _ fun s A0 c0 A1 c1 A2 c2 C2 hk => ?_)) | (with_reducible refine hif _ (one _ fun s A0 c0 A1 c1 A2 c2 C2 hk => ?_)) | (with_reducible refine hloop _ (fun ss A c C2 hK => ?_)) | (with_reducible refine print _ (fun j C3 hj r3 d3 => ?_)))
    all_goals first
      | exact ret_same (hk _ hb)
      | exact ret_same hK
      | exact ret_same (fyield _ hb)
      | skip
    all_goals
      have w1 := one_add (j := j) (by omega)
      repeat' (first | simp -implicitDefEqProofs only [zG1,zG2,zG3,zG4,zG5,zG6,zG7,eq_self,resV,rval,X.val,binv,fillL,setR,↓reduceIte,Nat.reduceEqDiff,Nat.reduceAdd,Nat.reduceMul,Nat.reduceLeDiff,Nat.reduceLT,Nat.reduceSub,reduceCtorEq,zGq, w1] | ((with_reducible refine rows_intro (fun _ hb => ?_)); try simp only [set_none, ne_eq] at hb) | ((with_reducible refine new_intro (fun _ hb => ?_)); try simp only [set_none, ne_eq] at hb) | (with_reducible refine draw_same ?_) | ((with_reducible refine gd_split ?_ (fun _ => ?_) (fun _ => ?_)); exact rfl) | ((with_reducible refine td_split ?_ (fun _ => ?_) (fun _ => ?_)); exact rfl) | (with_reducible refine c_split (fun _ => ?_) (fun _ => ?_)) | (with_reducible refine pexpr j _ _ hj r3 d3 (fun e A c C hk => ?_)))
      exact ret_same (hk _ hb)
theorem blk_step {H C C2 C' : AHeap} {b : Nat} {bs bs' : List Nat} {t : TypeId} {v : Value} {n : Nat} {xs ys : List Value} {ss ts : List St} (d0 : Dr H C b) (d2 : Dr C C2 b) (n0 : New H bs) (w : Rw C t 8 v n xs bs) (s0 : StL ((C.off H).no fun x => x ∈ bs) ss xs)
    (s2 : StL (C2.off C) ts ys) (hc : Chg C2 C' bs) (hn : ∀ x, x ∈ bs' → x ∈ bs ∨ C2 x = none) : StL ((C'.off H).no fun x => x ∈ bs') (ss ++ ts) (xs ++ ys) := by
  refine StL.app (s0.le fun x k hx => ?_) (s2.le fun x k hx => ?_)
  · by_cases hm : x ∈ bs
    · rw [no_in (B := fun x => x ∈ bs) hm] at hx; cases hx
    · rw [no_out (B := fun x => x ∈ bs) hm] at hx
      obtain ⟨g1, g2⟩ := off_some hx
      have xb : ¬ x = b := by rintro rfl; exact d0.b0 g1
      have k2 := d2.sov g2 xb
      obtain ⟨k3, h3, r3⟩ := k2.chg hc hm
      have hm' : ¬ x ∈ bs' := fun h => (hn x h).elim hm fun e => k2.ne e
      exact ⟨k3, by rw [no_out (B := fun x => x ∈ bs') hm', off_at g1]; exact h3, r3⟩
  · obtain ⟨g1, g2⟩ := off_some hx
    have hm : ¬ x ∈ bs := fun hm => by
      rcases w with ⟨_, _, _, rfl⟩ | ⟨b', cap, _, rfl, _, _, _, hk⟩
      · cases hm
      · simp only [List.mem_cons, List.not_mem_nil, or_false] at hm
        subst hm; exact hk.ne g1
    obtain ⟨k3, h3, r3⟩ := hc x k hm g2
    have hm' : ¬ x ∈ bs' := fun h => (hn x h).elim hm fun e => by rw [e] at g2; cases g2
    exact ⟨k3, by rw [no_out (B := fun x => x ∈ bs') hm', off_at (d0.nov g1)]; exact h3, r3⟩
theorem blkP_of (d : Nat) (hd3 : d ≤ 3) (ih : StmP w0 d) : BlkP w0 d := by
  intro S b H K p B n cm pm loops hr hB h0 hn8 hcm hpm h1 h
  have hcl := cB_le hd3
  refine acalls_of_sx mix Try.func71 of71 (by simp [ir71]) ?_; rw [ir71]; (try delta qT qI qC qO qM qG)
  repeat' (first | simp -implicitDefEqProofs only [zG1,zG2,zG3,zG4,zG5,zG6,zG7,eq_self,resV,rval,X.val,binv,fillL,setR,↓reduceIte,Nat.reduceEqDiff,Nat.reduceAdd,Nat.reduceMul,Nat.reduceLeDiff,Nat.reduceLT,Nat.reduceSub,reduceCtorEq,zGq] | ((with_reducible refine rows_intro (fun _ hb => ?_)); try simp only [set_none, ne_eq] at hb) | ((with_reducible refine new_intro (fun _ hb => ?_)); try simp only [set_none, ne_eq] at hb) | (with_reducible refine draw_same ?_) | ((with_reducible refine gd_split ?_ (fun _ => ?_) (fun _ => ?_)); exact rfl) | ((with_reducible refine td_split ?_ (fun _ => ?_) (fun _ => ?_)); exact rfl) | (with_reducible refine c_split (fun _ => ?_) (fun _ => ?_)))
  have hb1 := hb
  have l1 := (AHeap.le.refl H).fresh hb1 ⟨[], true, 63, 0⟩
  refine for_rule n (fun k fr C => ∃ ss xs v bs p', RdK S C b p' ∧ Dr H C b ∧ New H bs ∧ Rw C 63 8 v ss.length xs bs ∧ StL ((C.off H).no fun x => x ∈ bs) ss xs ∧ ss.all (stOk d) = true ∧ ss.length ≤ 2 * k ∧ cntL ss ≤ k * cB d ∧ p ≤ p' ∧ p' ≤ p + (k * pB d : Nat) ∧
      fr 0 = .pointer (some ⟨b, 0, none⟩) ∧ fr 1 = .int .i64 B ∧ fr 2 = .int .i64 d ∧ fr 3 = .int .i64 n ∧ fr 4 = .bool loops ∧ fr 11 = v ∧ fr 12 = .int .i64 k)
    ⟨[], [], _, [_], p, hr.fresh hb1 _, hr.dr l1, New.one hb1, Rw.mk (cap := 0) (by rw [Nat.zero_mul]; exact Kn.same _ _ _) (by simp) (by simp) (by decide), by simp [StL], rfl, by simp, by simp [cntL], by omega, by omega, (by first | rfl | (simp only [put_at, ↓reduceIte, Nat.reduceEqDiff]; first | done | rfl | assumption) | simp [put_at, *]), (by first | rfl | (simp only [put_at, ↓reduceIte, Nat.reduceEqDiff]; first | done | rfl | assumption) | simp [put_at, *]), (by first | rfl | (simp only [put_at, ↓reduceIte, Nat.reduceEqDiff]; first | done | rfl | assumption) | simp [put_at, *]), (by first | rfl | (simp only [put_at, ↓reduceIte, Nat.reduceEqDiff]; first | done | rfl | assumption) | simp [put_at, *]), (by first | rfl | (simp only [put_at, ↓reduceIte, Nat.reduceEqDiff]; first | done | rfl | assumption) | simp [put_at, *]), (by first | rfl | (simp only [put_at, ↓reduceIte, Nat.reduceEqDiff]; first | done | rfl | assumption) | simp [put_at, *]), (by first | rfl | (simp only [put_at, ↓reduceIte, Nat.reduceEqDiff]; first | done | rfl | assumption) | simp [put_at, *])⟩ ?_ ?_
  · rintro k fr C hk ⟨ss, xs, v, bs, p', hrc, hd, hnb, hw, hs, hok, hl, hct, hp0, hp1, f0, f1, f2, f3, f4, f11, f12⟩ N hN
    obtain ⟨A1, c1, rfl, -⟩ := hw.fl
    have e1 : (k + 1) * pB d = k * pB d + pB d := Nat.succ_mul _ _
    have e2 : (k + 1) * pB d ≤ n * pB d := Nat.mul_le_mul_right _ hk
    have e3 : (k + 1) * cB d = k * cB d + cB d := Nat.succ_mul _ _
    have g0 := lt_dec hk
    have g2 := up1 hk (by omega)
    have hbs : ¬ b ∈ bs := fun hm => hd.b0 (hnb b hm)
    repeat' (first | simp -implicitDefEqProofs only [zG1,zG2,zG3,zG4,zG5,zG6,zG7,eq_self,resV,rval,X.val,binv,fillL,setR,↓reduceIte,Nat.reduceEqDiff,Nat.reduceAdd,Nat.reduceMul,Nat.reduceLeDiff,Nat.reduceLT,Nat.reduceSub,reduceCtorEq,zGq, f0, f1, f2, f3, f4, f11, f12, g0, g2] | ((with_reducible refine rows_intro (fun _ hb => ?_)); try simp only [set_none, ne_eq] at hb) | ((with_reducible refine new_intro (fun _ hb => ?_)); try simp only [set_none, ne_eq] at hb) | (with_reducible refine draw_same ?_) | ((with_reducible refine gd_split ?_ (fun _ => ?_) (fun _ => ?_)); exact rfl) | ((with_reducible refine td_split ?_ (fun _ => ?_) (fun _ => ?_)); exact rfl) | (with_reducible refine c_split (fun _ => ?_) (fun _ => ?_)))
    refine ih S b C _ p' B loops hrc hB (by omega) (by omega) (fun ts A c C2 p2 r2 d2 hts hto htl htc hp2 hp3 => ?_)
    obtain ⟨ys, hys, hyf⟩ := hts.fl0
    have hw2 : Rw C2 63 8 (.slice A1 ss.length c1) ss.length xs bs := hw.chg (d2.toChg (bs := [b]) (by simp)) fun y hy hm => by
      simp only [List.mem_cons, List.not_mem_nil, or_false] at hm
      exact hbs (hm ▸ hy)
    repeat' (first | simp -implicitDefEqProofs only [zG1,zG2,zG3,zG4,zG5,zG6,zG7,eq_self,resV,rval,X.val,binv,fillL,setR,↓reduceIte,Nat.reduceEqDiff,Nat.reduceAdd,Nat.reduceMul,Nat.reduceLeDiff,Nat.reduceLT,Nat.reduceSub,reduceCtorEq,zGq] | ((with_reducible refine rows_intro (fun _ hb => ?_)); try simp only [set_none, ne_eq] at hb) | ((with_reducible refine new_intro (fun _ hb => ?_)); try simp only [set_none, ne_eq] at hb) | (with_reducible refine draw_same ?_) | ((with_reducible refine gd_split ?_ (fun _ => ?_) (fun _ => ?_)); exact rfl) | ((with_reducible refine td_split ?_ (fun _ => ?_) (fun _ => ?_)); exact rfl) | (with_reducible refine c_split (fun _ => ?_) (fun _ => ?_)))
    refine app_rw hw2 (hyf.le (off_le _ _)) hys.len hys.one' (by simp only [maxLen]; omega) (by omega) (fun v3 C3 bs3 hc3 hn3 w3 => ?_)
    have d3 := (hd.trans d2).chg hc3 hnb
    repeat' (first | simp -implicitDefEqProofs only [zG1,zG2,zG3,zG4,zG5,zG6,zG7,eq_self,resV,rval,X.val,binv,fillL,setR,↓reduceIte,Nat.reduceEqDiff,Nat.reduceAdd,Nat.reduceMul,Nat.reduceLeDiff,Nat.reduceLT,Nat.reduceSub,reduceCtorEq,zGq, f0, f1, f2, f3, f4, f11, f12, g2] | ((with_reducible refine rows_intro (fun _ hb => ?_)); try simp only [set_none, ne_eq] at hb) | ((with_reducible refine new_intro (fun _ hb => ?_)); try simp only [set_none, ne_eq] at hb) | (with_reducible refine draw_same ?_) | ((with_reducible refine gd_split ?_ (fun _ => ?_) (fun _ => ?_)); exact rfl) | ((with_reducible refine td_split ?_ (fun _ => ?_) (fun _ => ?_)); exact rfl) | (with_reducible refine c_split (fun _ => ?_) (fun _ => ?_)))
    refine hN _ _ _ (.refl _) ⟨ss ++ ts, xs ++ ys, v3, bs3, p2, r2.chg hc3 hbs hr.fl d3.le, d3, fun y hy => ?_, by rw [List.length_append]; exact w3, blk_step hd d2 hnb hw hs hys hc3 hn3, by simp [List.all_append, hok, hto], by rw [List.length_append]; omega, by rw [cntL_app]; omega, by omega, by omega, (by first | rfl | (simp only [put_at, ↓reduceIte, Nat.reduceEqDiff]; first | done | rfl | assumption) | simp [put_at, *]), (by first | rfl | (simp only [put_at, ↓reduceIte, Nat.reduceEqDiff]; first | done | rfl | assumption) | simp [put_at, *]), (by first | rfl | (simp only [put_at, ↓reduceIte, Nat.reduceEqDiff]; first | done | rfl | assumption) | simp [put_at, *]), (by first | rfl | (simp only [put_at, ↓reduceIte, Nat.reduceEqDiff]; first | done | rfl | assumption) | simp [put_at, *]), (by first | rfl | (simp only [put_at, ↓reduceIte, Nat.reduceEqDiff]; first | done | rfl | assumption) | simp [put_at, *]), (by first | rfl | (simp only [put_at, ↓reduceIte, Nat.reduceEqDiff]; first | done | rfl | assumption) | simp [put_at, *]), (by first | rfl | (simp only [put_at, ↓reduceIte, Nat.reduceEqDiff]; first | done | rfl | assumption) | simp [put_at, *])⟩
    rcases hn3 y hy with h | h
    · exact hnb y h
    · exact (hd.trans d2).nov h
  · rintro fr C ⟨ss, xs, v, bs, p', hrc, hd, hnb, hw, hs, hok, hl, hct, hp0, hp1, f0, f1, f2, f3, f4, f11, f12⟩ N
    have g0 : decide ((n : Int) < (n : Int)) = false := by simp
    repeat' (first | simp -implicitDefEqProofs only [zG1,zG2,zG3,zG4,zG5,zG6,zG7,eq_self,resV,rval,X.val,binv,fillL,setR,↓reduceIte,Nat.reduceEqDiff,Nat.reduceAdd,Nat.reduceMul,Nat.reduceLeDiff,Nat.reduceLT,Nat.reduceSub,reduceCtorEq,zGq, f0, f1, f2, f3, f4, f11, f12, g0] | ((with_reducible refine rows_intro (fun _ hb => ?_)); try simp only [set_none, ne_eq] at hb) | ((with_reducible refine new_intro (fun _ hb => ?_)); try simp only [set_none, ne_eq] at hb) | (with_reducible refine draw_same ?_) | ((with_reducible refine gd_split ?_ (fun _ => ?_) (fun _ => ?_)); exact rfl) | ((with_reducible refine td_split ?_ (fun _ => ?_) (fun _ => ?_)); exact rfl) | (with_reducible refine c_split (fun _ => ?_) (fun _ => ?_)))
    exact ret_same (h ss xs v bs C p' hrc hd hnb hw hs hok hl (by omega) hp0 (by omega))
theorem blkP : ∀ d, d ≤ 3 → BlkP w0 d
  | 0, h => blkP_of w0 0 h (stmP_of w0 0 h fun d' e => by omega)
  | d + 1, h => blkP_of w0 (d + 1) h (stmP_of w0 (d + 1) h fun d' e => by
    obtain rfl : d' = d := (by omega)
    exact blkP d' (by omega))
theorem l92Block3_ok (S : Src) (b : Nat) (H : AHeap) (K : Value → AHeap → Prop) (p B : Int) (n : Nat) (hr : RdK S H b p) (hB : B ≤ 3) (h0 : 0 ≤ p) (hn : n ≤ 6) (h1 : p ≤ 1099511500000)
    (h : ∀ ss xs v bs C' p', RdK S C' b p' → Dr H C' b → New H bs → Rw C' 63 8 v ss.length xs bs → StL ((C'.off H).no fun x => x ∈ bs) ss xs → ss.all (stOk 3) = true → ss.length ≤ 12 → cntL ss ≤ 1200 → p ≤ p' → p' ≤ p + 36000 → K v C') :
    ACalls Try.prog w0 71 [.pointer (some ⟨b, 0, none⟩), .int .i64 B, .int .i64 3, .int .i64 n, .bool true] H K := by
  have e1 : n * cB 3 ≤ 1200 := Nat.le_trans (Nat.mul_le_mul_right _ hn) (by decide)
  have e2 : n * pB 3 ≤ 36000 := Nat.le_trans (Nat.mul_le_mul_right _ hn) (by decide)
  exact blkP w0 3 (by decide) S b H K p B n 1200 36000 true hr hB h0 (by omega) e1 e2 (by omega) fun ss xs v bs C' p' g1 g2 g3 g4 g5 g6 g7 g8 g9 g10 => h ss xs v bs C' p' g1 g2 g3 g4 g5 g6 (by omega) g8 g9 g10
/-- The statements of a task. -/
theorem l92Stmts_ok (S : Src) (b : Nat) (H : AHeap) (K : Value → AHeap → Prop) (p B : Int) (hr : RdK S H b p) (hB : B ≤ 3) (h0 : 0 ≤ p) (h1 : p ≤ 1099511400000)
    (h : ∀ ss xs v bs C' p', RdK S C' b p' → Dr H C' b → New H bs → Rw C' 63 8 v ss.length xs bs → StL ((C'.off H).no fun x => x ∈ bs) ss xs → stsOk ss = true → ss.length ≤ 12 → p ≤ p' → p' ≤ p + 36001 → K v C') :
    ACalls Try.prog w0 47 [.pointer (some ⟨b, 0, none⟩), .int .i64 B] H K := by
  refine acalls_of_sx mix Try.func47 of47 (by simp [ir47]) ?_; rw [ir47]; (try delta qT qI qC qO qM qG)
  repeat' (first | simp -implicitDefEqProofs only [zG1,zG2,zG3,zG4,zG5,zG6,zG7,eq_self,resV,rval,X.val,binv,fillL,setR,↓reduceIte,Nat.reduceEqDiff,Nat.reduceAdd,Nat.reduceMul,Nat.reduceLeDiff,Nat.reduceLT,Nat.reduceSub,reduceCtorEq,zGq] | ((with_reducible refine rows_intro (fun _ hb => ?_)); try simp only [set_none, ne_eq] at hb) | ((with_reducible refine new_intro (fun _ hb => ?_)); try simp only [set_none, ne_eq] at hb) | (with_reducible refine draw_same ?_) | ((with_reducible refine gd_split ?_ (fun _ => ?_) (fun _ => ?_)); exact rfl) | ((with_reducible refine td_split ?_ (fun _ => ?_) (fun _ => ?_)); exact rfl) | (with_reducible refine c_split (fun _ => ?_) (fun _ => ?_)))
  refine pickK_ok _ _ hr 6 (by omega) (by omega) (by decide) (fun u C1 r1 d1 hu0 hu1 => ?_)
  obtain ⟨j, rfl⟩ := nat3 hu0
  have w1 := one_add (j := j) (by omega)
  repeat' (first | simp -implicitDefEqProofs only [zG1,zG2,zG3,zG4,zG5,zG6,zG7,eq_self,resV,rval,X.val,binv,fillL,setR,↓reduceIte,Nat.reduceEqDiff,Nat.reduceAdd,Nat.reduceMul,Nat.reduceLeDiff,Nat.reduceLT,Nat.reduceSub,reduceCtorEq,zGq, w1] | ((with_reducible refine rows_intro (fun _ hb => ?_)); try simp only [set_none, ne_eq] at hb) | ((with_reducible refine new_intro (fun _ hb => ?_)); try simp only [set_none, ne_eq] at hb) | (with_reducible refine draw_same ?_) | ((with_reducible refine gd_split ?_ (fun _ => ?_) (fun _ => ?_)); exact rfl) | ((with_reducible refine td_split ?_ (fun _ => ?_) (fun _ => ?_)); exact rfl) | (with_reducible refine c_split (fun _ => ?_) (fun _ => ?_)))
  refine l92Block3_ok _ S b C1 _ (p + 1) B (1 + j) r1 hB (by omega) (by omega) (by omega) (fun ss xs v bs C2 p2 r2 d2 n2 w2 s2 hok hl hc hp0 hp1 => ?_)
  repeat' (first | simp -implicitDefEqProofs only [zG1,zG2,zG3,zG4,zG5,zG6,zG7,eq_self,resV,rval,X.val,binv,fillL,setR,↓reduceIte,Nat.reduceEqDiff,Nat.reduceAdd,Nat.reduceMul,Nat.reduceLeDiff,Nat.reduceLT,Nat.reduceSub,reduceCtorEq,zGq] | ((with_reducible refine rows_intro (fun _ hb => ?_)); try simp only [set_none, ne_eq] at hb) | ((with_reducible refine new_intro (fun _ hb => ?_)); try simp only [set_none, ne_eq] at hb) | (with_reducible refine draw_same ?_) | ((with_reducible refine gd_split ?_ (fun _ => ?_) (fun _ => ?_)); exact rfl) | ((with_reducible refine td_split ?_ (fun _ => ?_) (fun _ => ?_)); exact rfl) | (with_reducible refine c_split (fun _ => ?_) (fun _ => ?_)))
  have d02 := d1.trans d2
  refine while_rule (fun m fr C => ∃ ss' xs' v', m = ss'.length ∧ C = C2 ∧ Rw C 63 8 v' ss'.length xs' bs ∧ StL ((C.off C1).no fun x => x ∈ bs) ss' xs' ∧ ss'.all (stOk 3) = true ∧ ss'.length ≤ 12 ∧ cntL ss' ≤ 1200 ∧ fr 5 = v')
    ss.length ⟨ss, xs, v, rfl, rfl, w2, s2, hok, hl, hc, (by first | rfl | (simp only [put_at, ↓reduceIte, Nat.reduceEqDiff]; first | done | rfl | assumption) | simp [put_at, *])⟩ ?_
  rintro m fr _ ⟨ss', xs', v', rfl, rfl, w, s, hok', hl', hc', f5⟩ N hN
  obtain ⟨A1, c1, rfl, f⟩ := w.fl
  have hR : StR _ ss' A1 0 := (s.le ((no_le _ _).trans (off_le _ _))).str f
  by_cases hbig : 16 < cntL ss'
  · have g0 : decide ((cntL ss' : Int) > 16) = true := by simp; omega
    have hpos : 0 < ss'.length := by
      cases ss' with
      | nil => simp [cntL] at hbig
      | cons x xs => simp
    obtain ⟨b', cap, e, rfl, hcap1, hcap2, hxl, hk⟩ := w.open_ hpos
    simp only [Value.slice.injEq, true_and] at e
    obtain ⟨rfl, rfl⟩ := e
    obtain ⟨m, hm⟩ : ∃ m, ss'.length = m + 1 := ⟨ss'.length - 1, by omega⟩
    have w2' : IntKind.i64.wrap ((ss'.length : Int) - 1) = (m : Int) := by rw [wrap_i64 (by omega) (by omega)]; omega
    have g3 : bnds ss'.length c1 none (some (.int .i64 (m : Int))) none = some (0, m, c1) := by
      have : (m : Int) ≤ c1 := by omega
      simp [bnds, bndv, this]
    repeat' (first | simp -implicitDefEqProofs only [zG1,zG2,zG3,zG4,zG5,zG6,zG7,eq_self,resV,rval,X.val,binv,fillL,setR,↓reduceIte,Nat.reduceEqDiff,Nat.reduceAdd,Nat.reduceMul,Nat.reduceLeDiff,Nat.reduceLT,Nat.reduceSub,reduceCtorEq,zGq, f5, g0, w2', g3, Option.map_none, Nat.zero_mul, ite_self, Nat.sub_zero] | ((with_reducible refine rows_intro (fun _ hb => ?_)); try simp only [set_none, ne_eq] at hb) | ((with_reducible refine new_intro (fun _ hb => ?_)); try simp only [set_none, ne_eq] at hb) | (with_reducible refine draw_same ?_) | ((with_reducible refine gd_split ?_ (fun _ => ?_) (fun _ => ?_)); exact rfl) | ((with_reducible refine td_split ?_ (fun _ => ?_) (fun _ => ?_)); exact rfl) | (with_reducible refine c_split (fun _ => ?_) (fun _ => ?_)) | (with_reducible refine l11Count_ok _ ss' _ _ _ _ (by omega) hR ?_))
    obtain ⟨k1, k2⟩ := Rw.cut_ (m := m) hk hxl (by omega)
    have ht : (ss'.take m).length = m := by rw [List.length_take]; omega
    have hcl := cntL_le (ss := ss') m
    refine hN m _ _ _ (by omega) (.refl _) ⟨ss'.take m, xs'.take (m * 8), _, ht.symm, rfl, ?_, s.take m, ?_, by omega, by omega, (by first | rfl | (simp only [put_at, ↓reduceIte, Nat.reduceEqDiff]; first | done | rfl | assumption) | simp [put_at, *])⟩
    · rw [ht]; exact Rw.mk k1 k2 (by omega) hcap2
    · rw [List.all_eq_true] at hok' ⊢
      exact fun x hx => hok' x (List.mem_of_mem_take hx)
  · have g0 : decide ((cntL ss' : Int) > 16) = false := by simp; omega
    repeat' (first | simp -implicitDefEqProofs only [zG1,zG2,zG3,zG4,zG5,zG6,zG7,eq_self,resV,rval,X.val,binv,fillL,setR,↓reduceIte,Nat.reduceEqDiff,Nat.reduceAdd,Nat.reduceMul,Nat.reduceLeDiff,Nat.reduceLT,Nat.reduceSub,reduceCtorEq,zGq, f5, g0] | ((with_reducible refine rows_intro (fun _ hb => ?_)); try simp only [set_none, ne_eq] at hb) | ((with_reducible refine new_intro (fun _ hb => ?_)); try simp only [set_none, ne_eq] at hb) | (with_reducible refine draw_same ?_) | ((with_reducible refine gd_split ?_ (fun _ => ?_) (fun _ => ?_)); exact rfl) | ((with_reducible refine td_split ?_ (fun _ => ?_) (fun _ => ?_)); exact rfl) | (with_reducible refine c_split (fun _ => ?_) (fun _ => ?_)) | (with_reducible refine l11Count_ok _ ss' _ _ _ _ (by omega) hR ?_))
    refine ret_same (h ss' xs' _ bs _ p2 r2 d02 (n2.le' d1) w ?_ ?_ hl' (by omega) (by omega))
    · exact s.le (no_mono (d1.off_r d2))
    · simp only [stsOk, hok', Bool.true_and, decide_eq_true_eq]; omega
end Go.Proofs.Ytjhedgoafkabiaa
namespace Go.Proofs.Ytjhedgoafkabiaa
set_option linter.all false
open Go Go.RowKit
/-- v is a slice of slices of the call's own, in blocks among bs: the rows read as L. -/
def Rs (C : AHeap) (t' t : TypeId) (sz : Nat) (v : Value) (L : List (List Value)) (bs : List Nat) : Prop :=
  ∃ (vs : List Value) (ob : List Nat) (bss : List (List Nat)), Rw C t' 1 v L.length vs ob ∧ bss.length = L.length ∧ (∀ x, x ∈ ob → x ∈ bs) ∧
    (∀ (i : Nat) (ib : List Nat), bss[i]? = some ib → (∀ x, x ∈ ib → x ∈ bs ∧ ¬ x ∈ ob) ∧ ∀ (j : Nat) (jb : List Nat), bss[j]? = some jb → i ≠ j → ∀ x, x ∈ ib → ¬ x ∈ jb) ∧
    ∀ (i : Nat) (xs : List Value), L[i]? = some xs → ∃ x ib n, vs[i]? = some x ∧ bss[i]? = some ib ∧ Rw C t sz x n xs ib
section
variable {P : Program} {w0 : World} {K : Value → AHeap → Prop} {C C' H : AHeap} {t' t : TypeId} {sz m c n cap b : Nat} {v x : Value} {L : List (List Value)} {bs bs' ib : List Nat} {A : Option Addr} {xs : List Value} {z : List Value} {bytes xc : Nat}
theorem Rs.trans (h : Rs C t' t sz v L bs) (hl : AHeap.le C C') : Rs C' t' t sz v L bs := by
  obtain ⟨vs, ob, bss, h1, h2, h3, h4, h5⟩ := h
  refine ⟨vs, ob, bss, h1.trans hl, h2, h3, h4, fun i xs hi => ?_⟩
  obtain ⟨x, ib, n, e1, e2, e3⟩ := h5 i xs hi
  exact ⟨x, ib, n, e1, e2, e3.trans hl⟩
theorem Rs.chg (h : Rs C t' t sz v L bs) (hc : Chg C C' bs') (hd : ∀ b, b ∈ bs → ¬ b ∈ bs') : Rs C' t' t sz v L bs := by
  obtain ⟨vs, ob, bss, h1, h2, h3, h4, h5⟩ := h
  refine ⟨vs, ob, bss, h1.chg hc (fun b hb => hd b (h3 b hb)), h2, h3, h4, fun i xs hi => ?_⟩
  obtain ⟨x, ib, n, e1, e2, e3⟩ := h5 i xs hi
  exact ⟨x, ib, n, e1, e2, e3.chg hc (fun b hb => hd b ((h4 i ib e2).1 b hb).1)⟩
/-- Only the blocks that are in use count. -/
theorem Rs.tight (h : Rs C t' t sz v L bs) : ∃ bs', (∀ b, b ∈ bs' → b ∈ bs) ∧ (∀ b, b ∈ bs' → C b ≠ none) ∧ Rs C t' t sz v L bs' := by
  classical
  obtain ⟨vs, ob, bss, h1, h2, h3, h4, h5⟩ := h
  refine ⟨bs.filter (fun b => decide (C b ≠ none)), fun b hb => (List.mem_filter.1 hb).1, fun b hb => by simpa using (List.mem_filter.1 hb).2, vs, ob, bss, h1, h2, fun x hx => List.mem_filter.2 ⟨h3 x hx, ?_⟩, fun i ib hi => ⟨fun x hx => ⟨List.mem_filter.2 ⟨((h4 i ib hi).1 x hx).1, ?_⟩, ((h4 i ib hi).1 x hx).2⟩, (h4 i ib hi).2⟩, h5⟩
  · rcases h1 with ⟨_, _, _, rfl⟩ | ⟨b, cap, _, rfl, _, _, _, hk⟩
    · cases hx
    · simp at hx; subst hx; simpa using hk.ne
  · have hlt : i < L.length := by rw [← h2]; exact (List.getElem?_eq_some_iff.1 hi).1
    obtain ⟨x', ib', n, _, e2, e3⟩ := h5 i _ (List.getElem?_eq_getElem hlt)
    rw [hi] at e2
    obtain rfl := Option.some.inj e2
    rcases e3 with ⟨_, _, _, rfl⟩ | ⟨b, cap, _, rfl, _, _, _, hk⟩
    · cases hx
    · simp at hx; subst hx; simpa using hk.ne
theorem Rs.nil_ (C : AHeap) (t' t : TypeId) (sz : Nat) : Rs C t' t sz (.slice none 0 0) [] [] :=
  ⟨[], [], [], Rw.nil_ _ _ _, rfl, fun x hx => (by cases hx), fun i ib hi => (by simp at hi), fun i xs hi => (by simp at hi)⟩
theorem Rs.empty (h : Rw C t' 1 v 0 xs bs) (t : TypeId) (sz : Nat) : Rs C t' t sz v [] bs := by
  have : xs = [] := List.eq_nil_of_length_eq_zero (by simpa using h.len)
  subst this
  exact ⟨[], bs, [], h, rfl, fun x hx => hx, fun i ib hi => (by simp at hi), fun i xs hi => (by simp at hi)⟩
theorem Rw.slice (h : Rw C t sz v n xs bs) : ∃ A c, v = .slice A n c := by obtain ⟨A, c, e, _⟩ := h.fl; exact ⟨A, c, e⟩
theorem Rs.slice (h : Rs C t' t sz v L bs) : ∃ A c, v = .slice A L.length c := by obtain ⟨vs, ob, bss, h1, _⟩ := h; exact h1.slice
theorem Rs.len (h : Rs C t' t sz (.slice A m c) L bs) : m = L.length := by obtain ⟨A', c', e⟩ := h.slice; simp only [Value.slice.injEq] at e; exact e.2.1
/-- A row, read. -/
theorem Rs.row (h : Rs C t' t sz (.slice A m c) L bs) {i : Nat} (hi : i < L.length) : A.isSome = true ∧ ∃ A' n c', C.cell (adr A i) = some (.slice A' n c') ∧ Fl C A' L[i] ∧ L[i].length = n * sz := by
  obtain ⟨vs, ob, bss, h1, h2, h3, h4, h5⟩ := h
  obtain ⟨x, ib, n, e1, e2, e3⟩ := h5 i _ (List.getElem?_eq_getElem hi)
  obtain ⟨A', c', rfl, f⟩ := e3.fl
  have hf := h1.fl'.1
  refine ⟨hf.is (i := i) ((List.getElem?_eq_some_iff.1 e1).1), A', n, c', hf i _ e1, f, e3.len⟩
/-- A row put in the place of another. -/
theorem Rs.st (h : Rs C t' t sz (.slice (some ⟨b, 0, none⟩) m cap) L bs) {i : Nat} (hi : i < L.length) (hx : Rw C t sz x n xs ib) (hd : ∀ y, y ∈ ib → ¬ y ∈ bs)
    (hK : ∀ C', Chg C C' bs → Rs C' t' t sz (.slice (some ⟨b, 0, none⟩) m cap) (L.set i xs) (bs ++ ib) → K undef C') : stK 1 (.pointer (some ⟨b, i, none⟩)) x K C := by
  obtain ⟨vs, ob, bss, h1, h2, h3, h4, h5⟩ := h
  obtain ⟨b', cap', e, rfl, hn, hc, hl, hk⟩ := h1.open_ (by omega)
  simp only [Value.slice.injEq, Option.some.injEq, Addr.mk.injEq] at e
  obtain ⟨⟨rfl, -⟩, rfl, rfl⟩ := e
  have hxc : x.cells = #[x] ∧ x.oneCell' = true := by
    obtain ⟨A, c, rfl⟩ := hx.slice
    exact ⟨vcS _ _ _, ocS _ _ _⟩
  have hvl : vs.length = L.length := by rw [hl, Nat.mul_one]
  refine st_kn hk rfl (by rw [hxc.1]; rfl) (by simp only; omega) (by rw [hxc.1]; simpa using hxc.2) (fun C' hc' ho' k' => hK C' (hc'.mono (by simpa using h3 b (by simp))) ?_)
  rw [hxc.1] at k'
  have hbb : ¬ b ∈ ib := fun hm => hd b hm (h3 b (by simp))
  refine ⟨vs.set i x, [b], bss.set i ib, ?_, by rw [List.length_set, List.length_set]; exact h2, fun y hy => List.mem_append_left _ (h3 y hy), fun j jb hj => ?_, fun j ys hj => ?_⟩
  · rw [List.length_set]; exact .inr ⟨b, cap, rfl, rfl, hn, hc, by rw [List.length_set]; exact hl, k'⟩
  · have old : ∀ j jb, bss[j]? = some jb → ∀ y, y ∈ jb → y ∈ bs := fun j jb hj y hy => ((h4 j jb hj).1 y hy).1
    rw [List.getElem?_set] at hj
    by_cases e : i = j
    · subst e
      rw [if_pos rfl, if_pos (by omega)] at hj
      obtain rfl := Option.some.inj hj
      refine ⟨fun y hy => ⟨List.mem_append_right _ hy, fun e => hbb (by simp at e; exact e ▸ hy)⟩, fun j' jb' hj' hne y hy hm => ?_⟩
      rw [List.getElem?_set, if_neg hne] at hj'
      exact hd y hy (old j' jb' hj' y hm)
    · rw [if_neg e] at hj
      refine ⟨fun y hy => ⟨List.mem_append_left _ ((h4 j jb hj).1 y hy).1, ((h4 j jb hj).1 y hy).2⟩, fun j' jb' hj' hne' y hy hm => ?_⟩
      rw [List.getElem?_set] at hj'
      by_cases e' : i = j'
      · subst e'
        rw [if_pos rfl, if_pos (by omega)] at hj'
        obtain rfl := Option.some.inj hj'
        exact hd y hm (old j jb hj y hy)
      · rw [if_neg e'] at hj'
        exact (h4 j jb hj).2 j' jb' hj' hne' y hy hm
  · rw [List.getElem?_set] at hj
    rw [List.getElem?_set, List.getElem?_set]
    split
    · rename_i e; subst e
      rw [if_pos rfl, if_pos hi] at hj
      obtain rfl := Option.some.inj hj
      rw [if_pos (by omega), if_pos (by omega)]
      exact ⟨x, ib, n, rfl, rfl, hx.chg hc' fun y hy e => hbb (by simp at e; exact e ▸ hy)⟩
    · rename_i hne
      rw [if_neg hne] at hj
      obtain ⟨x', ib', n', a1, a2, a3⟩ := h5 j ys hj
      exact ⟨x', ib', n', a1, a2, a3.chg hc' (((h4 j ib' a2).1 · · |>.2))⟩
/-- One more row. -/
theorem Rs.app (h : Rs C t' t sz v L bs) (hx : Rw C t sz x n xs ib) (hd : ∀ y, y ∈ ib → ¬ y ∈ bs) (hz : z.length = 1) {xa : Option Addr} (hr : Fl C xa [x]) (hm : L.length + 1 ≤ maxLen) (hB : (L.length + 1) * bytes ≤ 140737488355328)
    (hK : ∀ v' C' bs', Chg C C' bs → (∀ y, y ∈ bs' → y ∈ bs ∨ y ∈ ib ∨ C y = none) → Rs C' t' t sz v' (L ++ [xs]) bs' → K v' C') : appK P w0 z t' bytes v (.slice xa 1 xc) K C := by
  obtain ⟨vs, ob, bss, h1, h2, h3, h4, h5⟩ := h
  have hvl : vs.length = L.length := by have := h1.len; rw [this, Nat.mul_one]
  have h1' : Rw C t' z.length v L.length vs ob := by rw [hz]; exact h1
  have hxo : x.oneCell' = true := by
    obtain ⟨A, c, rfl⟩ := hx.slice
    exact ocS _ _ _
  refine app_rw h1' (news := [x]) hr (by rw [hz]; rfl) (by simpa using hxo) hm hB (fun v' C' ob' hc' hn' w' => ?_)
  rw [hz] at w'
  have hdi : ∀ y, y ∈ ib → ¬ y ∈ ob' := fun y hy hm => by
    rcases hn' y hm with ho | ho
    · exact hd y hy (h3 y ho)
    · rcases hx with ⟨_, _, _, rfl⟩ | ⟨b, cap, _, rfl, _, _, _, hk⟩
      · cases hy
      · simp at hy; subst hy; exact hk.ne ho
  have hold : ∀ j jb, bss[j]? = some jb → ∀ y, y ∈ jb → ¬ y ∈ ob' := fun j jb hj y hy hm => by
    rcases hn' y hm with ho | ho
    · exact ((h4 j jb hj).1 y hy).2 ho
    · have hjl : j < L.length := by rw [← h2]; exact (List.getElem?_eq_some_iff.1 hj).1
      obtain ⟨x', ib', n', a1, a2, a3⟩ := h5 j _ (List.getElem?_eq_getElem hjl)
      rw [hj] at a2
      obtain rfl := Option.some.inj a2
      rcases a3 with ⟨_, _, _, rfl⟩ | ⟨b, cap, _, rfl, _, _, _, hk⟩
      · cases hy
      · simp at hy; subst hy; exact hk.ne ho
  refine hK v' C' (ob' ++ (bs ++ ib).filter (fun y => !decide (y ∈ ob) || decide (y ∈ ob'))) (hc'.mono h3) (fun y hy => ?_) ⟨vs ++ [x], ob', bss ++ [ib], ?_, by simp [h2], fun y hy => List.mem_append_left _ hy, fun j jb hj => ?_, fun j ys hj => ?_⟩
  · rcases List.mem_append.1 hy with hy | hy
    · rcases hn' y hy with ho | ho
      · exact .inl (h3 y ho)
      · exact .inr (.inr ho)
    · rcases List.mem_append.1 (List.mem_filter.1 hy).1 with hy | hy
      · exact .inl hy
      · exact .inr (.inl hy)
  · rw [List.length_append]; exact w'
  · have inn : ∀ y, y ∈ bs ∨ y ∈ ib → ¬ y ∈ ob → y ∈ ob' ++ (bs ++ ib).filter (fun y => !decide (y ∈ ob) || decide (y ∈ ob')) := fun y hy hno =>
      List.mem_append_right _ (List.mem_filter.2 ⟨List.mem_append.2 hy, by simp [hno]⟩)
    rcases Nat.lt_or_ge j bss.length with hjl | hjl
    · rw [List.getElem?_append_left hjl] at hj
      refine ⟨fun y hy => ⟨inn y (.inl ((h4 j jb hj).1 y hy).1) ((h4 j jb hj).1 y hy).2, hold j jb hj y hy⟩, fun j' jb' hj' hne y hy hm => ?_⟩
      rcases Nat.lt_or_ge j' bss.length with hjl' | hjl'
      · rw [List.getElem?_append_left hjl'] at hj'
        exact (h4 j jb hj).2 j' jb' hj' hne y hy hm
      · rw [List.getElem?_append_right hjl'] at hj'
        have : j' - bss.length = 0 := by
          rcases Nat.eq_zero_or_pos (j' - bss.length) with h0 | h0
          · exact h0
          · rw [List.getElem?_eq_none (by simp; omega)] at hj'; cases hj'
        rw [this] at hj'
        obtain rfl := Option.some.inj hj'
        exact hd y hm ((h4 j jb hj).1 y hy).1
    · rw [List.getElem?_append_right hjl] at hj
      have hj0 : j - bss.length = 0 := by
        rcases Nat.eq_zero_or_pos (j - bss.length) with h0 | h0
        · exact h0
        · rw [List.getElem?_eq_none (by simp; omega)] at hj; cases hj
      rw [hj0] at hj
      obtain rfl := Option.some.inj hj
      refine ⟨fun y hy => ⟨inn y (.inr hy) (fun ho => hd y hy (h3 y ho)), hdi y hy⟩, fun j' jb' hj' hne y hy hm => ?_⟩
      rcases Nat.lt_or_ge j' bss.length with hjl' | hjl'
      · rw [List.getElem?_append_left hjl'] at hj'
        exact hd y hy ((h4 j' jb' hj').1 y hm).1
      · rw [List.getElem?_append_right hjl'] at hj'
        have : j' - bss.length = 0 := by
          rcases Nat.eq_zero_or_pos (j' - bss.length) with h0 | h0
          · exact h0
          · rw [List.getElem?_eq_none (by simp; omega)] at hj'; cases hj'
        exact hne (by omega)
  · rcases Nat.lt_or_ge j L.length with hjl | hjl
    · rw [List.getElem?_append_left hjl] at hj
      obtain ⟨x', ib', n', a1, a2, a3⟩ := h5 j ys hj
      exact ⟨x', ib', n', by rw [List.getElem?_append_left (by omega)]; exact a1, by rw [List.getElem?_append_left (by omega)]; exact a2, a3.chg hc' fun y hy => ((h4 j ib' a2).1 y hy).2⟩
    · rw [List.getElem?_append_right hjl] at hj
      have hj0 : j - L.length = 0 := by
        rcases Nat.eq_zero_or_pos (j - L.length) with h0 | h0
        · exact h0
        · rw [List.getElem?_eq_none (by simp; omega)] at hj; cases hj
      rw [hj0] at hj
      obtain rfl := Option.some.inj hj
      refine ⟨x, ib, n, by rw [List.getElem?_append_right (by omega), show j - vs.length = 0 by omega]; rfl, by rw [List.getElem?_append_right (by omega), show j - bss.length = 0 by omega]; rfl, hx.chg hc' fun y hy ho => hd y hy (h3 y ho)⟩
end
end Go.Proofs.Ytjhedgoafkabiaa
namespace Go.Proofs.Ytjhedgoafkabiaa
set_option linter.all false
open Go Go.RowKit
/-- How many elements there are in all. -/
def tot (sz : Nat) (L : List (List Value)) : Nat := (L.map fun x => x.length / sz).sum
/-- A fact: its kind and its number. -/
structure Fc where
  kind : Int
  n : Int
  deriving DecidableEq
abbrev Fc.cells (f : Fc) : List Value := [.int .i64 f.kind, .int .i64 f.n]
abbrev Fc.val (f : Fc) : Value := .agg #[.int .i64 f.kind, .int .i64 f.n]
/-- M is L, its rows marked one behind the other from k on. -/
def Marked (sz : Nat) (mk : Int → Nat → List Value) (k w : Int) (L M : List (List Value)) : Prop :=
  M.length = L.length ∧ ∀ i (hi : i < L.length) n, L[i].length = n * sz → M[i]? = some (mk (k + w * (tot sz (L.take i) : Int)) n)
def Midd (sz : Nat) (mk : Int → Nat → List Value) (k w : Int) (L M : List (List Value)) (j : Nat) : Prop :=
  M.length = L.length ∧ (∀ i (hi : i < L.length), i < j → ∀ n, L[i].length = n * sz → M[i]? = some (mk (k + w * (tot sz (L.take i) : Int)) n)) ∧ ∀ i, j ≤ i → M[i]? = L[i]?
section
variable {sz : Nat} {mk : Int → Nat → List Value} {k w : Int} {L M : List (List Value)} {j n : Nat}
theorem Midd.at_ (h : Midd sz mk k w L M j) (hj : j < L.length) : M[j]'(by rw [h.1]; exact hj) = L[j] := by
  have := h.2.2 j (Nat.le_refl _)
  rw [List.getElem?_eq_getElem hj, List.getElem?_eq_getElem (by rw [h.1]; exact hj)] at this
  exact Option.some.inj this
theorem Midd.step (h : Midd sz mk k w L M j) (hj : j < L.length) (hn : L[j].length = n * sz) (hs : 0 < sz := by decide) : Midd sz mk k w L (M.set j (mk (k + w * (tot sz (L.take j) : Int)) n)) (j + 1) := by
  refine ⟨by rw [List.length_set]; exact h.1, fun i hi hij n' hn' => ?_, fun i hij => ?_⟩
  · rw [List.getElem?_set]
    by_cases e : j = i
    · subst e
      rw [if_pos rfl, if_pos (by rw [h.1]; exact hj)]
      rw [hn] at hn'
      obtain rfl := Nat.eq_of_mul_eq_mul_right hs hn'
      rfl
    · rw [if_neg e]; exact h.2.1 i hi (by omega) n' hn'
  · rw [List.getElem?_set, if_neg (by omega)]; exact h.2.2 i (by omega)
theorem Marked.at_ (h : Marked sz mk k w L M) {i : Nat} (hi : i < L.length) (hn : L[i].length = n * sz) : M[i]'(by rw [h.1]; exact hi) = mk (k + w * (tot sz (L.take i) : Int)) n := by
  have := h.2 i hi n hn
  rw [List.getElem?_eq_getElem (by rw [h.1]; exact hi)] at this
  exact Option.some.inj this
theorem Midd.done (h : Midd sz mk k w L M L.length) : Marked sz mk k w L M := ⟨h.1, fun i hi n hn => h.2.1 i hi hi n hn⟩
end
end Go.Proofs.Ytjhedgoafkabiaa
namespace Go.Proofs.Ytjhedgoafkabiaa
set_option linter.all false
open Go Go.RowKit
section
variable {P : Program} {w : World}
end
section
variable {α : Type} {f : α → List Value} {w : Nat}
end
section
variable {H : AHeap} {b n : Nat} {k : Blk} {A : Option Addr}
theorem rdn_same (hl : n ≤ k.cells.length) : (H.set b k).rdn (some ⟨b, 0, none⟩) n = some (k.cells.take n) := by
  refine rdn_of (by rw [List.length_take]; omega) fun j v hj => ?_
  rw [List.getElem?_take] at hj
  split at hj
  · rw [adr_lit, Nat.zero_add, cell_same]; exact hj
  · cases hj
theorem rdn_old (hb : H b = none) (h : (H.rdn A n).isSome = true) : (H.set b k).rdn A n = H.rdn A n := by
  obtain ⟨l, hl⟩ := Option.isSome_iff_exists.1 h
  rw [hl]
  exact ((AHeap.le.refl H).fresh hb k).rdn hl
theorem Kn.rdn {C : AHeap} {l : List Value} (h : Kn C b k) {o : Nat} (hl : ∀ j, j < l.length → k.cells[o + j]? = l[j]?) : C.rdn (some ⟨b, o, none⟩) l.length = some l := by
  refine rdn_of rfl fun j v hj => ?_
  have := (List.getElem?_eq_some_iff.1 hj).1
  rw [adr_lit]
  exact h.cell (by rw [hl j this]; exact hj)
theorem Fl.rdn {C : AHeap} {vs l : List Value} (h : Fl C A vs) {o : Nat} (hl : ∀ j, j < l.length → vs[o + j]? = l[j]?) : C.rdn (adr A o) l.length = some l := by
  refine rdn_of rfl fun j v hj => ?_
  have := (List.getElem?_eq_some_iff.1 hj).1
  rw [adr_adr]
  exact h (o + j) v (by rw [hl j this]; exact hj)
end
theorem zGp : (type_of% @st_known) ∧ (type_of% @cell_old) ∧ (type_of% @set_mid) ∧ (type_of% @rdn_same) ∧ (type_of% @rdn_old) ∧ (type_of% @List.take_succ_cons.{0}) ∧ (type_of% @List.take_zero.{0}) := ⟨@st_known, @cell_old, @set_mid, @rdn_same, @rdn_old, @List.take_succ_cons.{0}, @List.take_zero.{0}⟩
end Go.Proofs.Ytjhedgoafkabiaa
namespace Go.Proofs.Ytjhedgoafkabiaa
set_option linter.all false
open Go Go.RowKit
set_option maxRecDepth 100000
variable (w0 : World)
theorem l92Endless_ok {S : Src} {b : Nat} {H : AHeap} {p : Int} (K : Value → AHeap → Prop) (hr : RdK S H b p) (h0 : 0 ≤ p) (h1 : p ≤ 1099511500000)
    (h : ∀ (body : List St) (A0 : Option Addr) (c0 : Nat) (A1 : Option Addr) (c1 : Nat) (C : AHeap) (q : Int), RdK S C b q → Dr H C b → StV (C.off H) (.mk 3 0 0 (.mk 0 1 []) body []) (stc 3 0 0 (.mk 0 1 []) body.length 0 A0 c0 A1 c1 none 0) → cntL body ≤ 100 → p ≤ q → q ≤ p + 20000 → K (stv 3 0 0 (.mk 0 1 []) body.length 0 A0 c0 A1 c1 none 0) C) :
    ACalls Try.prog w0 49 [.pointer (some ⟨b, 0, none⟩)] H K := by
  refine acalls_of_sx mix Try.func49 of49 (by simp [ir49]) ?_; rw [ir49]; (try delta qT qI qC qO qM qG)
  repeat' (first | simp -implicitDefEqProofs only [zG1,zG2,zG3,zG4,zG5,zG6,zG7,eq_self,resV,rval,X.val,binv,fillL,setR,↓reduceIte,Nat.reduceEqDiff,Nat.reduceAdd,Nat.reduceMul,Nat.reduceLeDiff,Nat.reduceLT,Nat.reduceSub,reduceCtorEq,zGq] | ((with_reducible refine rows_intro (fun _ hb => ?_)); try simp only [set_none, ne_eq] at hb) | ((with_reducible refine new_intro (fun _ hb => ?_)); try simp only [set_none, ne_eq] at hb) | (with_reducible refine draw_same ?_) | ((with_reducible refine gd_split ?_ (fun _ => ?_) (fun _ => ?_)); exact rfl) | ((with_reducible refine td_split ?_ (fun _ => ?_) (fun _ => ?_)); exact rfl) | (with_reducible refine c_split (fun _ => ?_) (fun _ => ?_)))
  rename_i x
  have hx := hb
  have hxb : ¬ x = b := by rintro rfl; exact hr.ne hx
  have l1 := (AHeap.le.refl H).fresh hx ⟨z8, true, 63, 8⟩
  refine l4Leaf_ok _ _ _ 0 1 (fun A0 c0 C1 l2 => ?_)
  have r1 := hr.le (l1.trans l2)
  have d1 := hr.dr (l1.trans l2)
  have k1 := (Kn.same H x ⟨z8, true, 63, 8⟩).trans l2
  repeat' (first | simp -implicitDefEqProofs only [zG1,zG2,zG3,zG4,zG5,zG6,zG7,eq_self,resV,rval,X.val,binv,fillL,setR,↓reduceIte,Nat.reduceEqDiff,Nat.reduceAdd,Nat.reduceMul,Nat.reduceLeDiff,Nat.reduceLT,Nat.reduceSub,reduceCtorEq,zGq] | ((with_reducible refine rows_intro (fun _ hb => ?_)); try simp only [set_none, ne_eq] at hb) | ((with_reducible refine new_intro (fun _ hb => ?_)); try simp only [set_none, ne_eq] at hb) | (with_reducible refine draw_same ?_) | ((with_reducible refine gd_split ?_ (fun _ => ?_) (fun _ => ?_)); exact rfl) | ((with_reducible refine td_split ?_ (fun _ => ?_) (fun _ => ?_)); exact rfl) | (with_reducible refine c_split (fun _ => ?_) (fun _ => ?_)))
  refine pickK_ok _ _ r1 2 (by omega) (by omega) (by decide) (fun v C2 r2 d2 hv0 hv1 => ?_)
  obtain ⟨j, rfl⟩ := nat3 hv0
  have d2' := d1.trans d2
  have k2 := d2.kn k1 hxb
  have hj : j < 2 := by omega
  have e1 : j * cB 1 ≤ 100 := Nat.le_trans (Nat.mul_le_mul_right _ (show j ≤ 2 by omega)) (by decide)
  have e2 : j * pB 1 ≤ 10000 := Nat.le_trans (Nat.mul_le_mul_right _ (show j ≤ 2 by omega)) (by decide)
  repeat' (first | simp -implicitDefEqProofs only [zG1,zG2,zG3,zG4,zG5,zG6,zG7,eq_self,resV,rval,X.val,binv,fillL,setR,↓reduceIte,Nat.reduceEqDiff,Nat.reduceAdd,Nat.reduceMul,Nat.reduceLeDiff,Nat.reduceLT,Nat.reduceSub,reduceCtorEq,zGq] | ((with_reducible refine rows_intro (fun _ hb => ?_)); try simp only [set_none, ne_eq] at hb) | ((with_reducible refine new_intro (fun _ hb => ?_)); try simp only [set_none, ne_eq] at hb) | (with_reducible refine draw_same ?_) | ((with_reducible refine gd_split ?_ (fun _ => ?_) (fun _ => ?_)); exact rfl) | ((with_reducible refine td_split ?_ (fun _ => ?_) (fun _ => ?_)); exact rfl) | (with_reducible refine c_split (fun _ => ?_) (fun _ => ?_)))
  refine blkP w0 1 (by decide) S b C2 _ _ 0 j 100 10000 false r2 (by omega) (by omega) (by omega) e1 e2 (by omega) (fun ss xs v3 bs3 C3 p3 r3 d3 n3 w3 s3 hok hl hcn hp0 hp1 => ?_)
  obtain ⟨A1, c1, rfl, -⟩ := w3.fl
  have d3' := d2'.trans d3
  have k3 := d3.kn k2 hxb
  repeat' (first | simp -implicitDefEqProofs only [zG1,zG2,zG3,zG4,zG5,zG6,zG7,eq_self,resV,rval,X.val,binv,fillL,setR,↓reduceIte,Nat.reduceEqDiff,Nat.reduceAdd,Nat.reduceMul,Nat.reduceLeDiff,Nat.reduceLT,Nat.reduceSub,reduceCtorEq,zGq] | ((with_reducible refine rows_intro (fun _ hb => ?_)); try simp only [set_none, ne_eq] at hb) | ((with_reducible refine new_intro (fun _ hb => ?_)); try simp only [set_none, ne_eq] at hb) | ((with_reducible refine gd_split ?_ (fun _ => ?_) (fun _ => ?_)); exact rfl) | ((with_reducible refine td_split ?_ (fun _ => ?_) (fun _ => ?_)); exact rfl) | (with_reducible refine c_split (fun _ => ?_) (fun _ => ?_)))
  refine finS (K := K) 3 0 0 (.mk 0 1 []) ss.length 0 A0 c0 A1 c1 none 0 rfl hx k3 hr r3 d3' (fun C8 hc r8 d8 => ?_) (fun C8 hc cs hK => ?_)
  · have hx2 : ∀ z, z ∈ [x] → C2 z ≠ none := fun z hz => by
      simp only [List.mem_cons, List.not_mem_nil, or_false] at hz
      subst hz
      exact k2.ne
    refine h ss A0 c0 A1 c1 C8 p3 r8 d8 ?_ hcn (by omega) (by omega)
    have hB' := blk_read d2' n3 w3 s3 hc hx2
    simp only [StV]
    exact ⟨_, _, _, _, _, _, rfl, Nat.zero_le _, by simp only [Ex.args, ExR], ⟨w3.bound, hB'⟩, Nat.zero_le _, by simp only [StR]⟩
  · repeat' (first | simp -implicitDefEqProofs only [zG1,zG2,zG3,zG4,zG5,zG6,zG7,eq_self,resV,rval,X.val,binv,fillL,setR,↓reduceIte,Nat.reduceEqDiff,Nat.reduceAdd,Nat.reduceMul,Nat.reduceLeDiff,Nat.reduceLT,Nat.reduceSub,reduceCtorEq,zGq, cs] | ((with_reducible refine rows_intro (fun _ hb => ?_)); try simp only [set_none, ne_eq] at hb) | ((with_reducible refine new_intro (fun _ hb => ?_)); try simp only [set_none, ne_eq] at hb) | (with_reducible refine draw_same ?_) | ((with_reducible refine gd_split ?_ (fun _ => ?_) (fun _ => ?_)); exact rfl) | ((with_reducible refine td_split ?_ (fun _ => ?_) (fun _ => ?_)); exact rfl) | (with_reducible refine c_split (fun _ => ?_) (fun _ => ?_)))
    exact ret_same hK
section
variable (H : AHeap) (K : Value → AHeap → Prop)
end
end Go.Proofs.Ytjhedgoafkabiaa
