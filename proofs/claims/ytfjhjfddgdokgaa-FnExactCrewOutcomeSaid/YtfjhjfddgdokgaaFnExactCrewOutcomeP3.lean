/- The statement FnExactCrewOutcome holds for all arguments; part 3 of the texts that show it. No further condition. -/
import Derived.Test.YtfjhjfddgdokgaaFnExactCrewOutcomeP2
namespace Go.Proofs.Ytfjhjfddgdokgaa
set_option linter.all false
open Go Go.RowKit
set_option maxRecDepth 100000
variable (w0 : World) (H : AHeap) (K : Value → AHeap → Prop)
theorem eqBoolS_ok (A B : Option Addr) (ca cb : Nat) (xs ys : List Bool) (hx : Fl H A (bools xs)) (hy : Fl H B (bools ys)) (hn : xs.length ≤ 4611686018427387904) (h : K (.bool (decide (xs = ys))) H) :
    ACalls Try.prog w0 110 [.slice A xs.length ca, .slice B ys.length cb] H K := by
  refine acalls_of_sx mix Try.func110 of110 (by simp [ir110]) ?_; rw [ir110]; (try delta qT qI qC qO qM qG)
  repeat' (first | simp -implicitDefEqProofs only [zG1,zG2,zG3,zG4,zG5,zG6,zG7,eq_self,resV,rval,X.val,binv,fillL,setR,↓reduceIte,Nat.reduceEqDiff,Nat.reduceAdd,Nat.reduceMul,Nat.reduceLeDiff,Nat.reduceLT,Nat.reduceSub,reduceCtorEq,zGr] | ((with_reducible refine rows_intro (fun _ hb => ?_)); try simp only [set_none, ne_eq] at hb) | ((with_reducible refine new_intro (fun _ hb => ?_)); try simp only [set_none, ne_eq] at hb) | (with_reducible refine draw_same ?_) | ((with_reducible refine gd_split ?_ (fun _ => ?_) (fun _ => ?_)); exact rfl) | ((with_reducible refine td_split ?_ (fun _ => ?_) (fun _ => ?_)); exact rfl) | (with_reducible refine c_split (fun _ => ?_) (fun _ => ?_)))
  · refine ret_same (kb h ?_)
    (try simp only [beq_iff_eq, beq_eq_false_iff_ne, bne_iff_ne, bne_eq_false_iff_eq, decide_eq_true_eq, decide_eq_false_iff_not, ne_eq, Bool.not_eq_true, Bool.not_eq_false, Bool.not_eq_eq_eq_not, Bool.not_true, Bool.not_false, Int.not_lt, Int.not_le, ge_iff_le, gt_iff_lt] at *)
    simp only [false_eq_decide_iff]
    intro e; subst e; omega
  · refine loop_rule (fun n fr H' => ∃ k : Nat, n = xs.length - k ∧ k ≤ xs.length ∧ H' = H ∧ (∀ i, i < k → xs[i]? = ys[i]?) ∧ fr 0 = .slice A xs.length ca ∧ fr 1 = .slice B ys.length cb ∧ fr 5 = .int .i64 k) xs.length
      ⟨0, rfl, Nat.zero_le _, rfl, fun i hi => absurd hi (Nat.not_lt_zero _), rfl, rfl, rfl⟩ ?_
    rintro n fr _ ⟨k, rfl, hk, rfl, he, h0, h1, h5⟩
    have hl : xs.length = ys.length := by (try simp only [beq_iff_eq, beq_eq_false_iff_ne, bne_iff_ne, bne_eq_false_iff_eq, decide_eq_true_eq, decide_eq_false_iff_not, ne_eq, Bool.not_eq_true, Bool.not_eq_false, Bool.not_eq_eq_eq_not, Bool.not_true, Bool.not_false, Int.not_lt, Int.not_le, ge_iff_le, gt_iff_lt] at *); omega
    by_cases hlt : k < xs.length
    · have hlt' : k < ys.length := by omega
      have g0 := lt_dec hlt
      have g1 := rng hlt
      have g2 := rng hlt'
      have g3 := up1 hlt hn
      have g4 := hx.bools_is hlt
      have g5 := hy.bools_is hlt'
      have g6 := hx.bool hlt
      have g7 := hy.bool hlt'
      repeat' (first | simp -implicitDefEqProofs only [zG1,zG2,zG3,zG4,zG5,zG6,zG7,eq_self,resV,rval,X.val,binv,fillL,setR,↓reduceIte,Nat.reduceEqDiff,Nat.reduceAdd,Nat.reduceMul,Nat.reduceLeDiff,Nat.reduceLT,Nat.reduceSub,reduceCtorEq,zGr, h0, h1, h5, g0, g1, g2, g3, g4, g5, g6, g7, Nat.mul_one] | ((with_reducible refine rows_intro (fun _ hb => ?_)); try simp only [set_none, ne_eq] at hb) | ((with_reducible refine new_intro (fun _ hb => ?_)); try simp only [set_none, ne_eq] at hb) | (with_reducible refine draw_same ?_) | ((with_reducible refine gd_split ?_ (fun _ => ?_) (fun _ => ?_)); exact rfl) | ((with_reducible refine td_split ?_ (fun _ => ?_) (fun _ => ?_)); exact rfl) | (with_reducible refine c_split (fun _ => ?_) (fun _ => ?_)))
      · refine ret_same (kb h ?_)
        (try simp only [beq_iff_eq, beq_eq_false_iff_ne, bne_iff_ne, bne_eq_false_iff_eq, decide_eq_true_eq, decide_eq_false_iff_not, ne_eq, Bool.not_eq_true, Bool.not_eq_false, Bool.not_eq_eq_eq_not, Bool.not_true, Bool.not_false, Int.not_lt, Int.not_le, ge_iff_le, gt_iff_lt] at *)
        simp only [false_eq_decide_iff]
        rintro rfl
        grind
      · refine ⟨_, _, ?_, AHeap.le.refl _, k + 1, rfl, by omega, rfl, fun i hi => ?_, by simp [put_at, h0], by simp [put_at, h1], by simp [put_at]⟩
        · omega
        · rcases Nat.lt_succ_iff_lt_or_eq.1 hi with hi | rfl
          · exact he i hi
          · (try simp only [beq_iff_eq, beq_eq_false_iff_ne, bne_iff_ne, bne_eq_false_iff_eq, decide_eq_true_eq, decide_eq_false_iff_not, ne_eq, Bool.not_eq_true, Bool.not_eq_false, Bool.not_eq_eq_eq_not, Bool.not_true, Bool.not_false, Int.not_lt, Int.not_le, ge_iff_le, gt_iff_lt] at *)
            grind
    · have g0 := ge_dec hlt
      repeat' (first | simp -implicitDefEqProofs only [zG1,zG2,zG3,zG4,zG5,zG6,zG7,eq_self,resV,rval,X.val,binv,fillL,setR,↓reduceIte,Nat.reduceEqDiff,Nat.reduceAdd,Nat.reduceMul,Nat.reduceLeDiff,Nat.reduceLT,Nat.reduceSub,reduceCtorEq,zGr, h0, h1, h5, g0] | ((with_reducible refine rows_intro (fun _ hb => ?_)); try simp only [set_none, ne_eq] at hb) | ((with_reducible refine new_intro (fun _ hb => ?_)); try simp only [set_none, ne_eq] at hb) | (with_reducible refine draw_same ?_) | ((with_reducible refine gd_split ?_ (fun _ => ?_) (fun _ => ?_)); exact rfl) | ((with_reducible refine td_split ?_ (fun _ => ?_) (fun _ => ?_)); exact rfl) | (with_reducible refine c_split (fun _ => ?_) (fun _ => ?_)))
      refine ret_same (kb h ?_)
      simp only [true_eq_decide_iff]
      apply List.ext_getElem?
      intro i
      by_cases hi : i < k
      · exact he i hi
      · rw [List.getElem?_eq_none (by omega), List.getElem?_eq_none (by omega)]
def bmarks (k : Int) (n : Nat) : List Bool := (List.range n).map fun (i : Nat) => (k + (i : Int)).tmod 3 == 0
theorem bmarks_len (k : Int) (n : Nat) : (bmarks k n).length = n := by simp [bmarks]
theorem bmarks_at (k : Int) (n i : Nat) (h : i < n) : (bools (bmarks k n))[i]? = some (.bool ((k + (i : Int)).tmod 3 == 0)) := by simp [bools, bmarks, h]
theorem bmark_step {vs : List Value} {k : Int} {i : Nat} (h : i < vs.length) : (bools (bmarks k i) ++ vs.drop i).set i (.bool ((k + (i : Int)).tmod 3 == 0)) = bools (bmarks k (i + 1)) ++ vs.drop (i + 1) := by
  apply List.ext_getElem?
  intro j
  have e1 : (bools (bmarks k i)).length = i := by rw [bools_len, bmarks_len]
  have e2 : (bools (bmarks k (i + 1))).length = i + 1 := by rw [bools_len, bmarks_len]
  rw [List.getElem?_set, List.getElem?_append, List.getElem?_append, e1, e2]
  by_cases hj : j = i
  · subst hj
    rw [if_pos rfl, if_pos (by rw [List.length_append, e1, List.length_drop]; omega), if_pos (by omega), bmarks_at k (j + 1) j (by omega)]
  · rw [if_neg (fun e => hj e.symm)]
    by_cases hlt : j < i
    · rw [if_pos hlt, if_pos (by omega), bmarks_at k i j hlt, bmarks_at k (i + 1) j (by omega)]
    · rw [if_neg hlt, if_neg (by omega)]
      simp only [List.getElem?_drop]
      congr 1; omega
theorem markBoolS_ok (H1 : AHeap) (t : TypeId) (v : Value) (n : Nat) (vs : List Value) (k : Int) (ho : Own H1 t 1 v n vs H) (hn : n ≤ 4611686018427387904) (h0 : 0 ≤ k) (h1 : k < 4611686018427387904)
    (h : ∀ H', Own H1 t 1 v n (bools (bmarks k n)) H' → K (.int .i64 (k + n)) H') : ACalls Try.prog w0 111 [v, .int .i64 k] H K := by
  have z3 : ¬ (3 : Int) = 0 := by decide
  refine acalls_of_sx mix Try.func111 of111 (by simp [ir111]) ?_; rw [ir111]; (try delta qT qI qC qO qM qG)
  rcases ho with ⟨rfl, rfl, rfl, rfl⟩ | ⟨b, cap, rfl, hb, hc, hm, hl, rfl⟩
  · repeat' (first | simp -implicitDefEqProofs only [zG1,zG2,zG3,zG4,zG5,zG6,zG7,eq_self,resV,rval,X.val,binv,fillL,setR,↓reduceIte,Nat.reduceEqDiff,Nat.reduceAdd,Nat.reduceMul,Nat.reduceLeDiff,Nat.reduceLT,Nat.reduceSub,reduceCtorEq,zGr] | ((with_reducible refine rows_intro (fun _ hb => ?_)); try simp only [set_none, ne_eq] at hb) | ((with_reducible refine new_intro (fun _ hb => ?_)); try simp only [set_none, ne_eq] at hb) | (with_reducible refine draw_same ?_) | ((with_reducible refine gd_split ?_ (fun _ => ?_) (fun _ => ?_)); exact rfl) | ((with_reducible refine td_split ?_ (fun _ => ?_) (fun _ => ?_)); exact rfl) | (with_reducible refine c_split (fun _ => ?_) (fun _ => ?_)))
    refine loop_rule (fun n fr H' => n = 0 ∧ H' = H ∧ fr 0 = .slice none 0 0 ∧ fr 1 = .int .i64 k ∧ fr 5 = .int .i64 0) 0 ⟨rfl, rfl, rfl, rfl, rfl⟩ ?_
    rintro n fr _ ⟨rfl, rfl, f0, f1, f5⟩
    have g0 : decide ((0 : Int) < ((0 : Nat) : Int)) = false := by simp
    repeat' (first | simp -implicitDefEqProofs only [zG1,zG2,zG3,zG4,zG5,zG6,zG7,eq_self,resV,rval,X.val,binv,fillL,setR,↓reduceIte,Nat.reduceEqDiff,Nat.reduceAdd,Nat.reduceMul,Nat.reduceLeDiff,Nat.reduceLT,Nat.reduceSub,reduceCtorEq,zGr, f0, f1, f5, g0] | ((with_reducible refine rows_intro (fun _ hb => ?_)); try simp only [set_none, ne_eq] at hb) | ((with_reducible refine new_intro (fun _ hb => ?_)); try simp only [set_none, ne_eq] at hb) | (with_reducible refine draw_same ?_) | ((with_reducible refine gd_split ?_ (fun _ => ?_) (fun _ => ?_)); exact rfl) | ((with_reducible refine td_split ?_ (fun _ => ?_) (fun _ => ?_)); exact rfl) | (with_reducible refine c_split (fun _ => ?_) (fun _ => ?_)))
    refine ret_same (ki (h _ (.inl ⟨rfl, rfl, rfl, rfl⟩)) (by omega))
  · rw [Nat.mul_one] at hl
    repeat' (first | simp -implicitDefEqProofs only [zG1,zG2,zG3,zG4,zG5,zG6,zG7,eq_self,resV,rval,X.val,binv,fillL,setR,↓reduceIte,Nat.reduceEqDiff,Nat.reduceAdd,Nat.reduceMul,Nat.reduceLeDiff,Nat.reduceLT,Nat.reduceSub,reduceCtorEq,zGr] | ((with_reducible refine rows_intro (fun _ hb => ?_)); try simp only [set_none, ne_eq] at hb) | ((with_reducible refine new_intro (fun _ hb => ?_)); try simp only [set_none, ne_eq] at hb) | (with_reducible refine draw_same ?_) | ((with_reducible refine gd_split ?_ (fun _ => ?_) (fun _ => ?_)); exact rfl) | ((with_reducible refine td_split ?_ (fun _ => ?_) (fun _ => ?_)); exact rfl) | (with_reducible refine c_split (fun _ => ?_) (fun _ => ?_)))
    refine loop_rule (fun m fr H' => ∃ i : Nat, m = n - i ∧ i ≤ n ∧ H' = H1.set b ⟨bools (bmarks k i) ++ vs.drop i, true, t, cap * 1⟩ ∧ fr 0 = .slice (some ⟨b, 0, none⟩) n cap ∧ fr 1 = .int .i64 (k + i) ∧ fr 5 = .int .i64 i) n
      ⟨0, rfl, Nat.zero_le _, by simp [bools, bmarks], rfl, by simp [fr0, put_at], rfl⟩ ?_
    rintro m fr _ ⟨i, rfl, hi, rfl, f0, f1, f5⟩
    by_cases hlt : i < n
    · have g0 := lt_dec hlt
      have g1 := rng hlt
      have g3 := up1 hlt hn
      have g4 := upz hlt hn h0 h1
      have g5 := bmark_step (vs := vs) (k := k) (i := i) (by omega)
      have g6 : i + 1 ≤ (bools (bmarks k i) ++ vs.drop i).length := by rw [List.length_append, bools_len, bmarks_len, List.length_drop]; omega
      repeat' (first | simp -implicitDefEqProofs only [zG1,zG2,zG3,zG4,zG5,zG6,zG7,eq_self,resV,rval,X.val,binv,fillL,setR,↓reduceIte,Nat.reduceEqDiff,Nat.reduceAdd,Nat.reduceMul,Nat.reduceLeDiff,Nat.reduceLT,Nat.reduceSub,reduceCtorEq,zGr, f0, f1, f5, g0, g1, g3, g4, g5, g6, z3, Nat.mul_one, adr_lit, true_and] | ((with_reducible refine rows_intro (fun _ hb => ?_)); try simp only [set_none, ne_eq] at hb) | ((with_reducible refine new_intro (fun _ hb => ?_)); try simp only [set_none, ne_eq] at hb) | (with_reducible refine draw_same ?_) | ((with_reducible refine gd_split ?_ (fun _ => ?_) (fun _ => ?_)); exact rfl) | ((with_reducible refine td_split ?_ (fun _ => ?_) (fun _ => ?_)); exact rfl) | (with_reducible refine c_split (fun _ => ?_) (fun _ => ?_)))
      refine ⟨_, _, ?_, AHeap.le.refl _, i + 1, rfl, by omega, by simp only [Nat.mul_one], by simp [put_at, f0], by simp [put_at], by simp [put_at]⟩
      omega
    · have g0 := ge_dec hlt
      obtain rfl : i = n := by omega
      repeat' (first | simp -implicitDefEqProofs only [zG1,zG2,zG3,zG4,zG5,zG6,zG7,eq_self,resV,rval,X.val,binv,fillL,setR,↓reduceIte,Nat.reduceEqDiff,Nat.reduceAdd,Nat.reduceMul,Nat.reduceLeDiff,Nat.reduceLT,Nat.reduceSub,reduceCtorEq,zGr, f0, f1, f5, g0] | ((with_reducible refine rows_intro (fun _ hb => ?_)); try simp only [set_none, ne_eq] at hb) | ((with_reducible refine new_intro (fun _ hb => ?_)); try simp only [set_none, ne_eq] at hb) | (with_reducible refine draw_same ?_) | ((with_reducible refine gd_split ?_ (fun _ => ?_) (fun _ => ?_)); exact rfl) | ((with_reducible refine td_split ?_ (fun _ => ?_) (fun _ => ?_)); exact rfl) | (with_reducible refine c_split (fun _ => ?_) (fun _ => ?_)))
      refine ret_same (h _ (.inr ⟨b, cap, rfl, hb, hc, hm, by rw [bools_len, bmarks_len, Nat.mul_one], ?_⟩))
      rw [List.drop_of_length_le (by omega), List.append_nil, Nat.mul_one]
theorem heldBoolS_ok (A : Option Addr) (n c : Nat) (k : Int) (hx : Fl H A (bools (bmarks k n))) (hn : n ≤ 4611686018427387904) (h0 : 0 ≤ k) (h1 : k < 4611686018427387904) (h : K (.int .i64 (k + n)) H) :
    ACalls Try.prog w0 112 [.slice A n c, .int .i64 k] H K := by
  have z3 : ¬ (3 : Int) = 0 := by decide
  refine acalls_of_sx mix Try.func112 of112 (by simp [ir112]) ?_; rw [ir112]; (try delta qT qI qC qO qM qG)
  repeat' (first | simp -implicitDefEqProofs only [zG1,zG2,zG3,zG4,zG5,zG6,zG7,eq_self,resV,rval,X.val,binv,fillL,setR,↓reduceIte,Nat.reduceEqDiff,Nat.reduceAdd,Nat.reduceMul,Nat.reduceLeDiff,Nat.reduceLT,Nat.reduceSub,reduceCtorEq,zGr] | ((with_reducible refine rows_intro (fun _ hb => ?_)); try simp only [set_none, ne_eq] at hb) | ((with_reducible refine new_intro (fun _ hb => ?_)); try simp only [set_none, ne_eq] at hb) | (with_reducible refine draw_same ?_) | ((with_reducible refine gd_split ?_ (fun _ => ?_) (fun _ => ?_)); exact rfl) | ((with_reducible refine td_split ?_ (fun _ => ?_) (fun _ => ?_)); exact rfl) | (with_reducible refine c_split (fun _ => ?_) (fun _ => ?_)))
  refine loop_rule (fun m fr H' => ∃ i : Nat, m = n - i ∧ i ≤ n ∧ H' = H ∧ fr 0 = .slice A n c ∧ fr 1 = .int .i64 (k + i) ∧ fr 5 = .int .i64 i) n
    ⟨0, rfl, Nat.zero_le _, rfl, rfl, by simp [fr0, put_at], rfl⟩ ?_
  rintro m fr _ ⟨i, rfl, hi, rfl, f0, f1, f5⟩
  by_cases hlt : i < n
  · have g0 := lt_dec hlt
    have g1 := rng hlt
    have g3 := up1 hlt hn
    have g4 := upz hlt hn h0 h1
    have g5 := hx.bools_is (i := i) (by rw [bmarks_len]; exact hlt)
    have g6 := hx i _ (bmarks_at k n i hlt)
    repeat' (first | simp -implicitDefEqProofs only [zG1,zG2,zG3,zG4,zG5,zG6,zG7,eq_self,resV,rval,X.val,binv,fillL,setR,↓reduceIte,Nat.reduceEqDiff,Nat.reduceAdd,Nat.reduceMul,Nat.reduceLeDiff,Nat.reduceLT,Nat.reduceSub,reduceCtorEq,zGr, f0, f1, f5, g0, g1, g3, g4, g5, g6, z3, Nat.mul_one, bne_self_eq_false] | ((with_reducible refine rows_intro (fun _ hb => ?_)); try simp only [set_none, ne_eq] at hb) | ((with_reducible refine new_intro (fun _ hb => ?_)); try simp only [set_none, ne_eq] at hb) | (with_reducible refine draw_same ?_) | ((with_reducible refine gd_split ?_ (fun _ => ?_) (fun _ => ?_)); exact rfl) | ((with_reducible refine td_split ?_ (fun _ => ?_) (fun _ => ?_)); exact rfl) | (with_reducible refine c_split (fun _ => ?_) (fun _ => ?_)))
    refine ⟨_, _, ?_, AHeap.le.refl _, i + 1, rfl, by omega, rfl, by simp [put_at, f0], by simp [put_at], by simp [put_at]⟩
    omega
  · have g0 := ge_dec hlt
    obtain rfl : i = n := by omega
    repeat' (first | simp -implicitDefEqProofs only [zG1,zG2,zG3,zG4,zG5,zG6,zG7,eq_self,resV,rval,X.val,binv,fillL,setR,↓reduceIte,Nat.reduceEqDiff,Nat.reduceAdd,Nat.reduceMul,Nat.reduceLeDiff,Nat.reduceLT,Nat.reduceSub,reduceCtorEq,zGr, f0, f1, f5, g0] | ((with_reducible refine rows_intro (fun _ hb => ?_)); try simp only [set_none, ne_eq] at hb) | ((with_reducible refine new_intro (fun _ hb => ?_)); try simp only [set_none, ne_eq] at hb) | (with_reducible refine draw_same ?_) | ((with_reducible refine gd_split ?_ (fun _ => ?_) (fun _ => ?_)); exact rfl) | ((with_reducible refine td_split ?_ (fun _ => ?_) (fun _ => ?_)); exact rfl) | (with_reducible refine c_split (fun _ => ?_) (fun _ => ?_)))
    exact ret_same h
end Go.Proofs.Ytfjhjfddgdokgaa
namespace Go.Proofs.Ytfjhjfddgdokgaa
set_option linter.all false
open Go Go.RowKit
set_option maxRecDepth 100000
variable (w0 : World) (C : AHeap) (K : Value → AHeap → Prop)
theorem markBoolS_rw {t : TypeId} {v : Value} {n : Nat} {xs : List Value} {bs : List Nat} (hr : Rw C t 1 v n xs bs) (hn : n ≤ 4611686018427387904) (k : Int) (h0 : 0 ≤ k) (h1 : k < 4611686018427387904)
    (h : ∀ C', Chg C C' bs → Rw C' t 1 v n (bools (bmarks k n)) bs → K (.int .i64 (k + n)) C') : ACalls Try.prog w0 111 [v, .int .i64 k] C K := by
  obtain ⟨A, B, lB, oB, hA⟩ := hr.own_
  refine ACalls.mono (markBoolS_ok _ _ _ _ _ _ _ _ k oB hn h0 h1 (fun C' o => ?_)) lB
  obtain ⟨h1, h2⟩ := Rw.put oB hA hr rfl o
  exact h C' h1 h2
end Go.Proofs.Ytfjhjfddgdokgaa
namespace Go.Proofs.Ytfjhjfddgdokgaa
set_option linter.all false
open Go Go.RowKit
set_option maxRecDepth 100000
variable (w0 : World)
section
variable (H : AHeap) (K : Value → AHeap → Prop)
theorem l16Items_ok (B : Option Addr) (d : Nat) (ts : List (List Int × Int)) (hs : FP H B 1 0 ts) (hm : ts.length ≤ 1048576) (hL : ∀ x ∈ ts, x.1.length ≤ 1048576)
    (h : ∀ v C bs, AHeap.le H C → New H bs → (∀ y, y ∈ bs → C y ≠ none) → Rs C 35 3 1 v (boxI ts) bs → K v C) :
    ACalls Try.prog w0 108 [.slice B ts.length d] H K := by
  refine acalls_of_sx mix Try.func108 of108 (by simp [ir108]) ?_; rw [ir108]; (try delta qT qI qC qO qM qG)
  repeat' (first | simp -implicitDefEqProofs only [zG1,zG2,zG3,zG4,zG5,zG6,zG7,eq_self,resV,rval,X.val,binv,fillL,setR,↓reduceIte,Nat.reduceEqDiff,Nat.reduceAdd,Nat.reduceMul,Nat.reduceLeDiff,Nat.reduceLT,Nat.reduceSub,reduceCtorEq,zGq] | ((with_reducible refine rows_intro (fun _ hb => ?_)); try simp only [set_none, ne_eq] at hb) | ((with_reducible refine new_intro (fun _ hb => ?_)); try simp only [set_none, ne_eq] at hb) | (with_reducible refine draw_same ?_) | ((with_reducible refine gd_split ?_ (fun _ => ?_) (fun _ => ?_)); exact rfl) | ((with_reducible refine td_split ?_ (fun _ => ?_) (fun _ => ?_)); exact rfl) | (with_reducible refine c_split (fun _ => ?_) (fun _ => ?_)))
  rename_i x5
  have h5 : H x5 = none := by assumption
  have l5 := (AHeap.le.refl H).fresh h5 ⟨[], true, 35, 0⟩
  have k5 := Kn.same H x5 ⟨[], true, 35, 0⟩
  generalize H.set x5 _ = C0 at l5 k5 ⊢
  refine for_rule ts.length (fun k fr C => ∃ v bs, AHeap.le H C ∧ New H bs ∧ Rs C 35 3 1 v (boxI (ts.take k)) bs ∧ fr 0 = .slice B ts.length d ∧ fr 3 = v ∧ fr 4 = .int .i64 k)
    ⟨_, [x5], l5, New.one h5, Rs.empty (Rw.mk k5 rfl (Nat.le_refl _) (Nat.zero_le _)) _ _, (by first | rfl | (simp only [put_at, ↓reduceIte, Nat.reduceEqDiff]; first | done | rfl | assumption) | simp [put_at, *]), (by first | rfl | (simp only [put_at, ↓reduceIte, Nat.reduceEqDiff]; first | done | rfl | assumption) | simp [put_at, *]), (by first | rfl | (simp only [put_at, ↓reduceIte, Nat.reduceEqDiff]; first | done | rfl | assumption) | simp [put_at, *])⟩ ?_ ?_
  · rintro k fr C hk ⟨v, bs', hle, hn', hR', f0, f3, f4⟩ N hN
    obtain ⟨bs, hss, hne, hR⟩ := hR'.tight
    obtain ⟨V1, e1, rfl⟩ := hR.slice
    have g0 := lt_dec hk
    have g1 := rng hk
    have g2 := up1 hk (by omega)
    obtain ⟨gB, A', c', q1, q2, fl⟩ := (hs.le hle) k hk
    rw [Nat.add_zero] at q2
    repeat' (first | simp -implicitDefEqProofs only [zG1,zG2,zG3,zG4,zG5,zG6,zG7,eq_self,resV,rval,X.val,binv,fillL,setR,↓reduceIte,Nat.reduceEqDiff,Nat.reduceAdd,Nat.reduceMul,Nat.reduceLeDiff,Nat.reduceLT,Nat.reduceSub,reduceCtorEq,zGq, f0, f3, f4, g0, g1, gB, q1, q2])
    refine rows_intro (fun x13 h13 => ?_)
    have l13 := (AHeap.le.refl C).fresh h13 ⟨[], true, 3, 0⟩
    have k13 := Kn.same C x13 ⟨[], true, 3, 0⟩
    have hb13 : ¬ x13 ∈ bs := fun hm => hne _ hm h13
    change putK _ _ _ _ (C.set x13 ⟨[], true, 3, 0⟩)
    generalize C.set x13 _ = C1 at l13 k13 ⊢
    replace q1 := l13.cell q1
    repeat' (first | simp -implicitDefEqProofs only [zG1,zG2,zG3,zG4,zG5,zG6,zG7,eq_self,resV,rval,X.val,binv,fillL,setR,↓reduceIte,Nat.reduceEqDiff,Nat.reduceAdd,Nat.reduceMul,Nat.reduceLeDiff,Nat.reduceLT,Nat.reduceSub,reduceCtorEq,zGq, f0, f3, f4, g1, gB, q1])
    refine app_rw (news := ints ts[k].1) (Rw.mk (n := 0) k13 rfl (Nat.le_refl _) (Nat.zero_le _)) (fl.le l13) (by rw [ints_len]; simp) (ints_oc _) (by have := hL _ (List.getElem_mem hk); simp only [maxLen]; omega) (by have := hL _ (List.getElem_mem hk); omega) (fun v8 C2 b8 h8 n8 w8 => ?_)
    rw [Nat.zero_add, List.nil_append] at w8
    have l2 : AHeap.le C C2 := h8.keep l13 (New.one h13)
    have new8 : New C b8 := fun y hy => (n8 y hy).elim (fun hm => by simp only [List.mem_cons, List.not_mem_nil, or_false] at hm; rw [hm]; exact h13) fun hm => l13.none hm
    obtain ⟨V8, e8, rfl, -⟩ := w8.fl
    repeat' (first | simp -implicitDefEqProofs only [zG1,zG2,zG3,zG4,zG5,zG6,zG7,eq_self,resV,rval,X.val,binv,fillL,setR,↓reduceIte,Nat.reduceEqDiff,Nat.reduceAdd,Nat.reduceMul,Nat.reduceLeDiff,Nat.reduceLT,Nat.reduceSub,reduceCtorEq,zGq, f0, f3, f4, g1])
    refine rows_intro (fun x20 h20 => ?_)
    have l20 := (AHeap.le.refl C2).fresh h20 ⟨[.slice V8 ts[k].1.length e8], true, 35, 1⟩
    have fl20 : Fl (C2.set x20 ⟨[.slice V8 ts[k].1.length e8], true, 35, 1⟩) (some ⟨x20, 0, none⟩) [.slice V8 ts[k].1.length e8] := Fl.blk _ _ _ _ fun _ _ h => h
    generalize C2.set x20 _ = C3 at l20 fl20 ⊢
    repeat' (first | simp -implicitDefEqProofs only [zG1,zG2,zG3,zG4,zG5,zG6,zG7,eq_self,resV,rval,X.val,binv,fillL,setR,↓reduceIte,Nat.reduceEqDiff,Nat.reduceAdd,Nat.reduceMul,Nat.reduceLeDiff,Nat.reduceLT,Nat.reduceSub,reduceCtorEq,zGq, f0, f3, f4, g1])
    have L3 := hle.trans (l2.trans l20)
    refine (hR.trans (l2.trans l20)).app (w8.trans l20) (fun y hy hm => hne y hm (new8 y hy)) rfl fl20 (by simp [boxI, maxLen]; omega) (by simp [boxI]; omega) (fun v9 C9 b9 h9 n9 R9 => ?_)
    rw [← boxI_take hk] at R9
    repeat' (first | simp -implicitDefEqProofs only [zG1,zG2,zG3,zG4,zG5,zG6,zG7,eq_self,resV,rval,X.val,binv,fillL,setR,↓reduceIte,Nat.reduceEqDiff,Nat.reduceAdd,Nat.reduceMul,Nat.reduceLeDiff,Nat.reduceLT,Nat.reduceSub,reduceCtorEq,zGq, f0, f3, f4, g2])
    refine hN _ _ _ (.refl _) ⟨v9, b9, h9.keep L3 (fun y hy => hn' y (hss y hy)), fun y hy => ?_, R9, (by first | rfl | (simp only [put_at, ↓reduceIte, Nat.reduceEqDiff]; first | done | rfl | assumption) | simp [put_at, *]), (by first | rfl | (simp only [put_at, ↓reduceIte, Nat.reduceEqDiff]; first | done | rfl | assumption) | simp [put_at, *]), (by first | rfl | (simp only [put_at, ↓reduceIte, Nat.reduceEqDiff]; first | done | rfl | assumption) | simp [put_at, *])⟩
    rcases n9 y hy with hm | hm | hm
    · exact hn' y (hss y hm)
    · exact hle.none (new8 y hm)
    · exact L3.none hm
  · rintro fr C ⟨v, bs', hle, hn', hR', f0, f3, f4⟩ N
    have g0 : decide ((ts.length : Int) < (ts.length : Int)) = false := by simp
    rw [List.take_length] at hR'
    obtain ⟨bs, hss, hne, hR⟩ := hR'.tight
    repeat' (first | simp -implicitDefEqProofs only [zG1,zG2,zG3,zG4,zG5,zG6,zG7,eq_self,resV,rval,X.val,binv,fillL,setR,↓reduceIte,Nat.reduceEqDiff,Nat.reduceAdd,Nat.reduceMul,Nat.reduceLeDiff,Nat.reduceLT,Nat.reduceSub,reduceCtorEq,zGq, f0, f3, f4, g0] | ((with_reducible refine rows_intro (fun _ hb => ?_)); try simp only [set_none, ne_eq] at hb) | ((with_reducible refine new_intro (fun _ hb => ?_)); try simp only [set_none, ne_eq] at hb) | (with_reducible refine draw_same ?_) | ((with_reducible refine gd_split ?_ (fun _ => ?_) (fun _ => ?_)); exact rfl) | ((with_reducible refine td_split ?_ (fun _ => ?_) (fun _ => ?_)); exact rfl) | (with_reducible refine c_split (fun _ => ?_) (fun _ => ?_)))
    exact ret_same (h _ _ bs hle (fun y hy => hn' y (hss y hy)) hne hR)
end
theorem OwO.open_ {C : AHeap} {o : Oc} {v0 v1 v2 : Value} {b0 b1 b2 : List Nat} (h : OwO C o v0 v1 v2 b0 b1 b2) : ∃ A0 c0 A1 c1 A2 c2, v0 = .slice A0 o.out.length c0 ∧ v1 = .slice A1 o.items.length c1 ∧ v2 = .slice A2 o.ended.length c2 := by
  have r1 := h.r1
  obtain ⟨A0, c0, rfl⟩ := h.r0.slice
  obtain ⟨A1, c1, rfl⟩ := r1.slice
  obtain ⟨A2, c2, rfl⟩ := h.r2.slice
  exact ⟨A0, c0, A1, c1, A2, c2, rfl, by rw [List.length_map], rfl⟩
/-- What an outcome's rows are at most. -/
structure OcB (o : Oc) : Prop where
  n0 : o.out.length ≤ 1048576
  n1 : o.items.length ≤ 3
  m1 : ∀ x ∈ o.items, x.length ≤ 1048576
  n2 : o.ended.length ≤ 3
def ocK1 (o : Oc) (k : Int) : Int := k + o.out.length
def ocK2 (o : Oc) (k : Int) : Int := ocK1 o k + 1 * (tot 1 (o.items.map ints) : Int)
def ocKE (o : Oc) (k : Int) : Int := ocK2 o k + o.ended.length
structure MdO (C : AHeap) (o : Oc) (k : Int) (v0 v1 v2 : Value) (b0 b1 b2 : List Nat) : Prop where
  r0 : Rw C 3 1 v0 o.out.length (ints (marks k o.out.length)) b0
  r1 : ∃ M, Marked 1 (fun k n => ints (marks k n)) (ocK1 o k) 1 (o.items.map ints) M ∧ Rs C 35 3 1 v1 M b1
  r2 : Rw C 4 1 v2 o.ended.length (bools (bmarks (ocK2 o k) o.ended.length)) b2
theorem MdO.trans {C C' : AHeap} {o : Oc} {k : Int} {v0 v1 v2 : Value} {b0 b1 b2 : List Nat} (h : MdO C o k v0 v1 v2 b0 b1 b2) (l : AHeap.le C C') : MdO C' o k v0 v1 v2 b0 b1 b2 := by
  obtain ⟨M, h1, h2⟩ := h.r1
  exact ⟨h.r0.trans l, ⟨M, h1, h2.trans l⟩, h.r2.trans l⟩
theorem tot_i {o : Oc} (hb : OcB o) : tot 1 (o.items.map ints) ≤ 3 * 1048576 := by
  refine Nat.le_trans (tot_bound (m := 1048576) fun x hx => ?_) (by rw [List.length_map]; exact Nat.mul_le_mul_right _ hb.n1)
  obtain ⟨y, hy, rfl⟩ := List.mem_map.1 hx
  have := hb.m1 y hy
  rw [ints_len]
  omega
section
variable (H : AHeap) (K : Value → AHeap → Prop)
theorem eqOutcome_ok (o : Oc) (hb : OcB o) (v0 v1 v2 u0 u1 u2 : Value) (b0 b1 b2 e0 e1 e2 : List Nat) (hx : OwO H o v0 v1 v2 b0 b1 b2) (hy : OwO H o u0 u1 u2 e0 e1 e2) (h : K (.bool true) H) :
    ACalls Try.prog w0 48 [.agg #[v0, v1, v2, .bool o.rest], .agg #[u0, u1, u2, .bool o.rest]] H K := by
  have bx : ∀ b : Bool, (b != b) = false := fun b => by cases b <;> rfl
  have n0 := hb.n0
  have n1 := hb.n1
  have n2 := hb.n2
  obtain ⟨A0, a0, A1, a1, A2, a2, rfl, rfl, rfl⟩ := hx.open_
  obtain ⟨D0, d0, D1, d1, D2, d2, rfl, rfl, rfl⟩ := hy.open_
  refine acalls_of_sx mix Try.func48 of48 (by simp [ir48]) ?_; rw [ir48]; (try delta qT qI qC qO qM qG)
  repeat' (first | simp -implicitDefEqProofs only [zG1,zG2,zG3,zG4,zG5,zG6,zG7,eq_self,resV,rval,X.val,binv,fillL,setR,↓reduceIte,Nat.reduceEqDiff,Nat.reduceAdd,Nat.reduceMul,Nat.reduceLeDiff,Nat.reduceLT,Nat.reduceSub,reduceCtorEq,zGq])
  refine new_intro (fun x2 hx2 => ?_)
  repeat' (first | simp -implicitDefEqProofs only [zG1,zG2,zG3,zG4,zG5,zG6,zG7,eq_self,resV,rval,X.val,binv,fillL,setR,↓reduceIte,Nat.reduceEqDiff,Nat.reduceAdd,Nat.reduceMul,Nat.reduceLeDiff,Nat.reduceLT,Nat.reduceSub,reduceCtorEq,zGq])
  refine new_intro (fun x3 hx3 => ?_)
  simp only [set_none, ne_eq] at hx3
  have l1 := ((AHeap.le.refl H).fresh hx2 ⟨[.slice A0 o.out.length a0, .slice A1 o.items.length a1, .slice A2 o.ended.length a2, .bool o.rest], true, 78, 4⟩).fresh (set_none.2 hx3) ⟨[.slice D0 o.out.length d0, .slice D1 o.items.length d1, .slice D2 o.ended.length d2, .bool o.rest], true, 78, 4⟩
  have k2 : Kn ((H.set x2 ⟨[.slice A0 o.out.length a0, .slice A1 o.items.length a1, .slice A2 o.ended.length a2, .bool o.rest], true, 78, 4⟩).set x3 ⟨[.slice D0 o.out.length d0, .slice D1 o.items.length d1, .slice D2 o.ended.length d2, .bool o.rest], true, 78, 4⟩) x2 ⟨[.slice A0 o.out.length a0, .slice A1 o.items.length a1, .slice A2 o.ended.length a2, .bool o.rest], true, 78, 4⟩ := (Kn.same _ _ _).set (fun e => hx3.1 e.symm) _
  have k3 := Kn.same (H.set x2 ⟨[.slice A0 o.out.length a0, .slice A1 o.items.length a1, .slice A2 o.ended.length a2, .bool o.rest], true, 78, 4⟩) x3 ⟨[.slice D0 o.out.length d0, .slice D1 o.items.length d1, .slice D2 o.ended.length d2, .bool o.rest], true, 78, 4⟩
  generalize (H.set x2 _).set x3 _ = C at l1 k2 k3 ⊢
  have kn4 : ∀ {x : Nat} {t : TypeId} {v0 v1 v2 v3 : Value}, Kn C x ⟨[v0, v1, v2, v3], true, t, 4⟩ → C.cell (some ⟨x, 0, none⟩) = some v0 ∧ C.cell (some ⟨x, 1, none⟩) = some v1 ∧ C.cell (some ⟨x, 2, none⟩) = some v2 ∧ C.cell (some ⟨x, 3, none⟩) = some v3 := fun k => ⟨k.cell (j := 0) rfl, k.cell (j := 1) rfl, k.cell (j := 2) rfl, k.cell (j := 3) rfl⟩
  have q2 := kn4 k2
  have q3 := kn4 k3
  have ox := hx.trans l1
  have oy := hy.trans l1
  repeat' (first | simp -implicitDefEqProofs only [zG1,zG2,zG3,zG4,zG5,zG6,zG7,eq_self,resV,rval,X.val,binv,fillL,setR,↓reduceIte,Nat.reduceEqDiff,Nat.reduceAdd,Nat.reduceMul,Nat.reduceLeDiff,Nat.reduceLT,Nat.reduceSub,reduceCtorEq,zGq, q2, q3, bx, bne_self_eq_false, decide_true] | (with_reducible refine eqIntS_ok _ _ _ A0 D0 a0 d0 _ _ ox.r0.fl'.1 oy.r0.fl'.1 (by omega) ?_) | (with_reducible refine eqIntSS_same _ _ _ _ _ _ _ _ _ _ _ _ ox.r1 oy.r1 (by omega) hb.m1 ?_) | (with_reducible refine eqBoolS_ok _ _ _ A2 D2 a2 d2 _ _ ox.r2.fl'.1 oy.r2.fl'.1 (by omega) ?_))
  exact ⟨H, l1, h⟩
theorem markOutcome_ok (o : Oc) (hb : OcB o) (v0 v1 v2 : Value) (b0 b1 b2 : List Nat) (k : Int) (hx : OwO H o v0 v1 v2 b0 b1 b2) (h0 : 0 ≤ k) (h1 : k ≤ 1048576)
    (h : ∀ C, Chg H C (b0 ++ (b1 ++ b2)) → MdO C o k v0 v1 v2 b0 b1 b2 → K (.int .i64 (ocKE o k)) C) :
    ACalls Try.prog w0 49 [.agg #[v0, v1, v2, .bool o.rest], .int .i64 k] H K := by
  have n0 := hb.n0
  have n1 := hb.n1
  have n2 := hb.n2
  have ht := tot_i hb
  have e1 : ocK1 o k = k + o.out.length := rfl
  have e2 : ocK2 o k = ocK1 o k + 1 * (tot 1 (o.items.map ints) : Int) := rfl
  have e3 : ocKE o k = ocK2 o k + o.ended.length := rfl
  obtain ⟨A0, a0, A1, a1, A2, a2, rfl, rfl, rfl⟩ := hx.open_
  refine acalls_of_sx mix Try.func49 of49 (by simp [ir49]) ?_; rw [ir49]; (try delta qT qI qC qO qM qG)
  repeat' (first | simp -implicitDefEqProofs only [zG1,zG2,zG3,zG4,zG5,zG6,zG7,eq_self,resV,rval,X.val,binv,fillL,setR,↓reduceIte,Nat.reduceEqDiff,Nat.reduceAdd,Nat.reduceMul,Nat.reduceLeDiff,Nat.reduceLT,Nat.reduceSub,reduceCtorEq,zGq])
  refine new_intro (fun x2 hx2 => ?_)
  have l1 := (AHeap.le.refl H).fresh hx2 ⟨[.slice A0 o.out.length a0, .slice A1 o.items.length a1, .slice A2 o.ended.length a2, .bool o.rest], true, 78, 4⟩
  have k2 := Kn.same H x2 ⟨[.slice A0 o.out.length a0, .slice A1 o.items.length a1, .slice A2 o.ended.length a2, .bool o.rest], true, 78, 4⟩
  have nx : ∀ {bs : List Nat}, (∀ y, y ∈ bs → y ∈ b0 ++ (b1 ++ b2)) → ¬ x2 ∈ bs := fun hs hm => hx.kn x2 (hs _ hm) hx2
  have y0 : ¬ x2 ∈ b0 := nx fun y hy => by simp [hy]
  have y1 : ¬ x2 ∈ b1 := nx fun y hy => by simp [hy]
  generalize H.set x2 _ = C at l1 k2 ⊢
  have kn4 : ∀ {C : AHeap} {x : Nat} {t : TypeId} {v0 v1 v2 v3 : Value}, Kn C x ⟨[v0, v1, v2, v3], true, t, 4⟩ → C.cell (some ⟨x, 0, none⟩) = some v0 ∧ C.cell (some ⟨x, 1, none⟩) = some v1 ∧ C.cell (some ⟨x, 2, none⟩) = some v2 ∧ C.cell (some ⟨x, 3, none⟩) = some v3 := fun k => ⟨k.cell (j := 0) rfl, k.cell (j := 1) rfl, k.cell (j := 2) rfl, k.cell (j := 3) rfl⟩
  have q := kn4 k2
  have ox := hx.trans l1
  repeat' (first | simp -implicitDefEqProofs only [zG1,zG2,zG3,zG4,zG5,zG6,zG7,eq_self,resV,rval,X.val,binv,fillL,setR,↓reduceIte,Nat.reduceEqDiff,Nat.reduceAdd,Nat.reduceMul,Nat.reduceLeDiff,Nat.reduceLT,Nat.reduceSub,reduceCtorEq,zGq, q])
  refine markIntS_rw w0 _ _ ox.r0 (by omega) k h0 (by omega) (fun C1 h1 r0 => ?_)
  rw [← e1]
  replace k2 := k2.chg h1 y0
  have q := kn4 k2
  have r1 := ox.r1.chg h1 ox.d01
  have r2 := ox.r2.chg h1 ox.d02
  repeat' (first | simp -implicitDefEqProofs only [zG1,zG2,zG3,zG4,zG5,zG6,zG7,eq_self,resV,rval,X.val,binv,fillL,setR,↓reduceIte,Nat.reduceEqDiff,Nat.reduceAdd,Nat.reduceMul,Nat.reduceLeDiff,Nat.reduceLT,Nat.reduceSub,reduceCtorEq,zGq, q])
  refine markIntSS_rs w0 _ _ _ _ _ _ _ (ocK1 o k) r1 (by rw [List.length_map]; omega) (by omega) (by omega) (fun C2 M h2 hM r1 => ?_)
  rw [← e2]
  replace k2 := k2.chg h2 y1
  have q := kn4 k2
  replace r0 := r0.chg h2 ox.d01.symm
  replace r2 := r2.chg h2 ox.d12
  repeat' (first | simp -implicitDefEqProofs only [zG1,zG2,zG3,zG4,zG5,zG6,zG7,eq_self,resV,rval,X.val,binv,fillL,setR,↓reduceIte,Nat.reduceEqDiff,Nat.reduceAdd,Nat.reduceMul,Nat.reduceLeDiff,Nat.reduceLT,Nat.reduceSub,reduceCtorEq,zGq, q])
  refine markBoolS_rw w0 _ _ r2 (by omega) (ocK2 o k) (by omega) (by omega) (fun C3 h3 r2 => ?_)
  rw [← e3]
  replace r0 := r0.chg h3 ox.d02.symm
  replace r1 := r1.chg h3 ox.d12.symm
  have hc : Chg C C3 (b0 ++ (b1 ++ b2)) := (h1.mono fun y hy => by simp [hy]).trans ((h2.mono fun y hy => by simp [hy]).trans (h3.mono fun y hy => by simp [hy]))
  repeat' (first | simp -implicitDefEqProofs only [zG1,zG2,zG3,zG4,zG5,zG6,zG7,eq_self,resV,rval,X.val,binv,fillL,setR,↓reduceIte,Nat.reduceEqDiff,Nat.reduceAdd,Nat.reduceMul,Nat.reduceLeDiff,Nat.reduceLT,Nat.reduceSub,reduceCtorEq,zGq])
  exact ret_same (h C3 (fun y k hy hk => ((Kn.of hk).trans l1).chg hc hy) ⟨r0, ⟨M, hM, r1⟩, r2⟩)
theorem heldOutcome_ok (o : Oc) (hb : OcB o) (v0 v1 v2 : Value) (b0 b1 b2 : List Nat) (k : Int) (hx : MdO H o k v0 v1 v2 b0 b1 b2) (h0 : 0 ≤ k) (h1 : k ≤ 1048576) (h : K (.int .i64 (ocKE o k)) H) :
    ACalls Try.prog w0 50 [.agg #[v0, v1, v2, .bool o.rest], .int .i64 k] H K := by
  have n0 := hb.n0
  have n1 := hb.n1
  have n2 := hb.n2
  have ht := tot_i hb
  have e1 : ocK1 o k = k + o.out.length := rfl
  have e2 : ocK2 o k = ocK1 o k + 1 * (tot 1 (o.items.map ints) : Int) := rfl
  have e3 : ocKE o k = ocK2 o k + o.ended.length := rfl
  have s1 : decide (ocK1 o k < 0) = false := by simp; omega
  have s2 : decide (ocK2 o k < 0) = false := by simp; omega
  have s3 : decide (ocKE o k < 0) = false := by simp; omega
  have hLs : ∀ x ∈ o.items.map ints, ∃ n, x.length = n * 1 := fun x hx => by
    obtain ⟨y, hy, rfl⟩ := List.mem_map.1 hx
    exact ⟨y.length, by rw [ints_len, Nat.mul_one]⟩
  obtain ⟨r0, ⟨M, hM, r1⟩, r2⟩ := hx
  obtain ⟨V0, d0, rfl, f0⟩ := r0.fl
  obtain ⟨V1, d1, rfl⟩ := r1.slice
  obtain ⟨V2, d2, rfl, f2⟩ := r2.fl
  refine acalls_of_sx mix Try.func50 of50 (by simp [ir50]) ?_; rw [ir50]; (try delta qT qI qC qO qM qG)
  repeat' (first | simp -implicitDefEqProofs only [zG1,zG2,zG3,zG4,zG5,zG6,zG7,eq_self,resV,rval,X.val,binv,fillL,setR,↓reduceIte,Nat.reduceEqDiff,Nat.reduceAdd,Nat.reduceMul,Nat.reduceLeDiff,Nat.reduceLT,Nat.reduceSub,reduceCtorEq,zGq])
  refine new_intro (fun x2 hx2 => ?_)
  have l1 := (AHeap.le.refl H).fresh hx2 ⟨[.slice V0 o.out.length d0, .slice V1 M.length d1, .slice V2 o.ended.length d2, .bool o.rest], true, 78, 4⟩
  have k2 := Kn.same H x2 ⟨[.slice V0 o.out.length d0, .slice V1 M.length d1, .slice V2 o.ended.length d2, .bool o.rest], true, 78, 4⟩
  generalize H.set x2 _ = C at l1 k2 ⊢
  have q : C.cell (some ⟨x2, 0, none⟩) = _ ∧ C.cell (some ⟨x2, 1, none⟩) = _ ∧ C.cell (some ⟨x2, 2, none⟩) = _ := ⟨k2.cell (j := 0) rfl, k2.cell (j := 1) rfl, k2.cell (j := 2) rfl⟩
  repeat' (first | simp -implicitDefEqProofs only [zG1,zG2,zG3,zG4,zG5,zG6,zG7,eq_self,resV,rval,X.val,binv,fillL,setR,↓reduceIte,Nat.reduceEqDiff,Nat.reduceAdd,Nat.reduceMul,Nat.reduceLeDiff,Nat.reduceLT,Nat.reduceSub,reduceCtorEq,zGq, q])
  refine heldIntS_ok w0 _ _ _ _ _ k (f0.le l1) (by omega) h0 (by omega) ?_
  rw [← e1]
  repeat' (first | simp -implicitDefEqProofs only [zG1,zG2,zG3,zG4,zG5,zG6,zG7,eq_self,resV,rval,X.val,binv,fillL,setR,↓reduceIte,Nat.reduceEqDiff,Nat.reduceAdd,Nat.reduceMul,Nat.reduceLeDiff,Nat.reduceLT,Nat.reduceSub,reduceCtorEq,zGq, q, s1])
  refine heldIntSS_ok w0 _ _ _ _ _ _ M _ (ocK1 o k) (r1.trans l1) hLs (by rw [List.length_map]; omega) hM (by omega) (by omega) ?_
  rw [← e2]
  repeat' (first | simp -implicitDefEqProofs only [zG1,zG2,zG3,zG4,zG5,zG6,zG7,eq_self,resV,rval,X.val,binv,fillL,setR,↓reduceIte,Nat.reduceEqDiff,Nat.reduceAdd,Nat.reduceMul,Nat.reduceLeDiff,Nat.reduceLT,Nat.reduceSub,reduceCtorEq,zGq, q, s2])
  refine heldBoolS_ok w0 _ _ _ _ _ (ocK2 o k) (f2.le l1) (by omega) (by omega) (by omega) ?_
  rw [← e3]
  repeat' (first | simp -implicitDefEqProofs only [zG1,zG2,zG3,zG4,zG5,zG6,zG7,eq_self,resV,rval,X.val,binv,fillL,setR,↓reduceIte,Nat.reduceEqDiff,Nat.reduceAdd,Nat.reduceMul,Nat.reduceLeDiff,Nat.reduceLT,Nat.reduceSub,reduceCtorEq,zGq, q, s3])
  exact ⟨H, l1, h⟩
end
end Go.Proofs.Ytfjhjfddgdokgaa
namespace Go.Proofs.Ytfjhjfddgdokgaa
set_option linter.all false
open Go Go.RowKit
set_option maxRecDepth 100000
variable (w0 : World)
theorem crewValidS_ok (H : AHeap) (K : Value → AHeap → Prop) (c : Cr) (A0 : Option Addr) (c0 : Nat) (A1 : Option Addr) (c1 : Nat) (A2 : Option Addr) (c2 : Nat) (A5 : Option Addr) (c5 : Nat) (hc : CrR H c A0 A1 A2 A5) (hb : CrB 1048576 c) (h : K (.bool (crewOk c)) H) :
    ACalls Try.prog w0 33 [crv c A0 c0 A1 c1 A2 c2 A5 c5] H K := by
  have nc := hb.n0
  have nt := hb.n1
  have nb := hb.n2
  have n5 := hb.n5
  have w1 : IntKind.i64.wrap ((c.threads.length : Int) - 1) = (c.threads.length : Int) - 1 := wrap_i64 (by omega) (by omega)
  refine acalls_of_sx mix Try.func33 of33 (by simp [ir33]) ?_; rw [ir33]; (try delta qT qI qC qO qM qG)
  repeat' (first | simp -implicitDefEqProofs only [zG1,zG2,zG3,zG4,zG5,zG6,zG7,eq_self,resV,rval,X.val,binv,fillL,setR,↓reduceIte,Nat.reduceEqDiff,Nat.reduceAdd,Nat.reduceMul,Nat.reduceLeDiff,Nat.reduceLT,Nat.reduceSub,reduceCtorEq,zGq])
  refine new_intro (fun x1 hx1 => ?_)
  have l1 := (AHeap.le.refl H).fresh hx1 ⟨crc c A0 c0 A1 c1 A2 c2 A5 c5, true, 62, 6⟩
  have k1 := Kn.same H x1 ⟨crc c A0 c0 A1 c1 A2 c2 A5 c5, true, 62, 6⟩
  generalize H.set x1 _ = C at l1 k1 ⊢
  have q := kn6 k1
  have hc' := hc.le l1
  cases e1 : (decide ((1 : Int) ≤ c.threads.length) && decide ((c.threads.length : Int) ≤ 3)) with
  | false =>
    have hF : crewPre c = false := by
      by_cases hl : c.threads.length = c.codes.length
      · simp only [crewPre, turnsOk, ← hl]; simp only [e1, Bool.false_and]
      · simp only [crewPre, decide_eq_false hl, Bool.and_false, Bool.false_and]
    rw [crewOk_pre hF] at h
    repeat' (first | simp -implicitDefEqProofs only [zG1,zG2,zG3,zG4,zG5,zG6,zG7,eq_self,resV,rval,X.val,binv,fillL,setR,↓reduceIte,Nat.reduceEqDiff,Nat.reduceAdd,Nat.reduceMul,Nat.reduceLeDiff,Nat.reduceLT,Nat.reduceSub,reduceCtorEq,zGq, q, w1, e1] | (with_reducible refine l6In_ok _ _ _ _ _ _ ?_) | (with_reducible refine l15Boxes_ok _ _ _ A2 c2 _ hc'.f2 hb.n2 hb.m2 ?_))
    exact ⟨H, l1, h⟩
  | true =>
  by_cases hl : c.threads.length = c.codes.length
  case neg =>
    have e2 : ((c.codes.length : Int) != (c.threads.length : Int)) = true := by simp; omega
    rw [crewOk_pre (by simp only [crewPre, decide_eq_false hl, Bool.and_false, Bool.false_and])] at h
    repeat' (first | simp -implicitDefEqProofs only [zG1,zG2,zG3,zG4,zG5,zG6,zG7,eq_self,resV,rval,X.val,binv,fillL,setR,↓reduceIte,Nat.reduceEqDiff,Nat.reduceAdd,Nat.reduceMul,Nat.reduceLeDiff,Nat.reduceLT,Nat.reduceSub,reduceCtorEq,zGq, q, w1, e1, e2] | (with_reducible refine l6In_ok _ _ _ _ _ _ ?_) | (with_reducible refine l15Boxes_ok _ _ _ A2 c2 _ hc'.f2 hb.n2 hb.m2 ?_))
    exact ⟨H, l1, h⟩
  case pos =>
  have e2 : ((c.codes.length : Int) != (c.threads.length : Int)) = false := by simp; omega
  cases e3 : boxesOk c.boxes with
  | false =>
    rw [crewOk_pre (by rw [crewPre, e3, Bool.and_false])] at h
    repeat' (first | simp -implicitDefEqProofs only [zG1,zG2,zG3,zG4,zG5,zG6,zG7,eq_self,resV,rval,X.val,binv,fillL,setR,↓reduceIte,Nat.reduceEqDiff,Nat.reduceAdd,Nat.reduceMul,Nat.reduceLeDiff,Nat.reduceLT,Nat.reduceSub,reduceCtorEq,zGq, q, w1, e1, e2, e3] | (with_reducible refine l6In_ok _ _ _ _ _ _ ?_) | (with_reducible refine l15Boxes_ok _ _ _ A2 c2 _ hc'.f2 hb.n2 hb.m2 ?_))
    exact ⟨H, l1, h⟩
  | true =>
  cases e4 : (decide ((0 : Int) ≤ c.turn) && decide (c.turn ≤ (c.threads.length : Int) - 1)) with
  | false =>
    have hF : turnsOk c.codes.length c.turn c.last c.log = false := by
      cases hT : turnsOk c.codes.length c.turn c.last c.log with
      | false => rfl
      | true =>
        simp only [turnsOk, Bool.and_eq_true, decide_eq_true_eq] at hT
        simp only [Bool.and_eq_false_iff, decide_eq_false_iff_not] at e4
        rcases e4 with e4 | e4 <;> omega
    rw [crewOk_pre (by rw [crewPre, hF]; rfl)] at h
    repeat' (first | simp -implicitDefEqProofs only [zG1,zG2,zG3,zG4,zG5,zG6,zG7,eq_self,resV,rval,X.val,binv,fillL,setR,↓reduceIte,Nat.reduceEqDiff,Nat.reduceAdd,Nat.reduceMul,Nat.reduceLeDiff,Nat.reduceLT,Nat.reduceSub,reduceCtorEq,zGq, q, w1, e1, e2, e3, e4] | (with_reducible refine l6In_ok _ _ _ _ _ _ ?_) | (with_reducible refine l15Boxes_ok _ _ _ A2 c2 _ hc'.f2 hb.n2 hb.m2 ?_))
    exact ⟨H, l1, h⟩
  | true =>
  cases e5 : (decide ((0 : Int) ≤ c.last) && decide (c.last ≤ (c.threads.length : Int))) with
  | false =>
    have hF : turnsOk c.codes.length c.turn c.last c.log = false := by
      cases hT : turnsOk c.codes.length c.turn c.last c.log with
      | false => rfl
      | true =>
        simp only [turnsOk, Bool.and_eq_true, decide_eq_true_eq] at hT
        simp only [Bool.and_eq_false_iff, decide_eq_false_iff_not] at e5
        rcases e5 with e5 | e5 <;> omega
    rw [crewOk_pre (by rw [crewPre, hF]; rfl)] at h
    repeat' (first | simp -implicitDefEqProofs only [zG1,zG2,zG3,zG4,zG5,zG6,zG7,eq_self,resV,rval,X.val,binv,fillL,setR,↓reduceIte,Nat.reduceEqDiff,Nat.reduceAdd,Nat.reduceMul,Nat.reduceLeDiff,Nat.reduceLT,Nat.reduceSub,reduceCtorEq,zGq, q, w1, e1, e2, e3, e4, e5] | (with_reducible refine l6In_ok _ _ _ _ _ _ ?_) | (with_reducible refine l15Boxes_ok _ _ _ A2 c2 _ hc'.f2 hb.n2 hb.m2 ?_))
    exact ⟨H, l1, h⟩
  | true =>
  have hT : turnsOk c.codes.length c.turn c.last c.log = words c.log := by
    simp only [Bool.and_eq_true, decide_eq_true_eq] at e1 e4 e5
    rw [turnsOk, decide_eq_true (by omega), decide_eq_true (by omega), decide_eq_true (by omega), decide_eq_true (by omega), decide_eq_true (by omega), decide_eq_true (by omega)]
    rfl
  repeat' (first | simp -implicitDefEqProofs only [zG1,zG2,zG3,zG4,zG5,zG6,zG7,eq_self,resV,rval,X.val,binv,fillL,setR,↓reduceIte,Nat.reduceEqDiff,Nat.reduceAdd,Nat.reduceMul,Nat.reduceLeDiff,Nat.reduceLT,Nat.reduceSub,reduceCtorEq,zGq, q, w1, e1, e2, e3, e4, e5] | (with_reducible refine l6In_ok _ _ _ _ _ _ ?_) | (with_reducible refine l15Boxes_ok _ _ _ A2 c2 _ hc'.f2 hb.n2 hb.m2 ?_))
  refine for_rule c.threads.length (fun k fr D => D = C ∧ (∀ i (h1 : i < c.threads.length) (h2 : i < c.codes.length), i < k → (threadValid c.threads[i].1 c.threads[i].2 c.codes[i] && codeThere c.codes[i] c.boxes.length) = true) ∧ fr 1 = .pointer (some ⟨x1, 0, none⟩) ∧ fr 3 = .int .i64 c.threads.length ∧ fr 4 = .int .i64 k)
    ⟨rfl, fun i _ _ hi => absurd hi (Nat.not_lt_zero _), (by first | rfl | (simp only [put_at, ↓reduceIte, Nat.reduceEqDiff]; first | done | rfl | assumption) | simp [put_at, *]), (by first | rfl | (simp only [put_at, ↓reduceIte, Nat.reduceEqDiff]; first | done | rfl | assumption) | simp [put_at, *]), (by first | rfl | (simp only [put_at, ↓reduceIte, Nat.reduceEqDiff]; first | done | rfl | assumption) | simp [put_at, *])⟩ ?_ ?_
  · rintro k fr D hk' ⟨rfl, hw, f1, f3, f4⟩ N hN
    have g0 := lt_dec hk'
    have g1 := rng hk'
    have g2 := up1 hk' (by omega)
    have hk : k < c.codes.length := by omega
    have g0' := lt_dec hk
    have g1' := rng hk
    obtain ⟨q1, A', c', q2, fl⟩ := hc'.f0 k hk
    obtain ⟨p1, B', d', p2, p3, fm⟩ := hc'.f1 k hk'
    rw [Nat.add_zero] at p2
    have hq := hb.m0 _ (List.getElem_mem hk)
    have hx := hb.m1 _ (List.getElem_mem hk')
    cases hv : threadValid c.threads[k].1 c.threads[k].2 c.codes[k] with
    | false =>
      rw [crewOk_bad hk' hk (by rw [hv]; rfl)] at h
      repeat' (first | simp -implicitDefEqProofs only [zG1,zG2,zG3,zG4,zG5,zG6,zG7,eq_self,resV,rval,X.val,binv,fillL,setR,↓reduceIte,Nat.reduceEqDiff,Nat.reduceAdd,Nat.reduceMul,Nat.reduceLeDiff,Nat.reduceLT,Nat.reduceSub,reduceCtorEq,zGq, q, f1, f3, f4, g0, g1, g0', g1', q1, q2, p1, p2, p3, hv, Nat.mul_one] | ((with_reducible refine rows_intro (fun _ hb => ?_)); try simp only [set_none, ne_eq] at hb) | ((with_reducible refine new_intro (fun _ hb => ?_)); try simp only [set_none, ne_eq] at hb) | (with_reducible refine draw_same ?_) | ((with_reducible refine gd_split ?_ (fun _ => ?_) (fun _ => ?_)); exact rfl) | ((with_reducible refine td_split ?_ (fun _ => ?_) (fun _ => ?_)); exact rfl) | (with_reducible refine c_split (fun _ => ?_) (fun _ => ?_)) | (with_reducible refine threadValidS_ok _ _ _ B' d' _ _ fm hx A' c' _ fl hq ?_))
      exact ⟨H, l1, h⟩
    | true =>
      cases hr : codeThere c.codes[k] c.boxes.length with
      | false =>
        rw [crewOk_bad hk' hk (by rw [hr, Bool.and_false])] at h
        repeat' (first | simp -implicitDefEqProofs only [zG1,zG2,zG3,zG4,zG5,zG6,zG7,eq_self,resV,rval,X.val,binv,fillL,setR,↓reduceIte,Nat.reduceEqDiff,Nat.reduceAdd,Nat.reduceMul,Nat.reduceLeDiff,Nat.reduceLT,Nat.reduceSub,reduceCtorEq,zGq, q, f1, f3, f4, g0, g1, g0', g1', q1, q2, p1, p2, p3, hv, hr, Nat.mul_one] | ((with_reducible refine rows_intro (fun _ hb => ?_)); try simp only [set_none, ne_eq] at hb) | ((with_reducible refine new_intro (fun _ hb => ?_)); try simp only [set_none, ne_eq] at hb) | (with_reducible refine draw_same ?_) | ((with_reducible refine gd_split ?_ (fun _ => ?_) (fun _ => ?_)); exact rfl) | ((with_reducible refine td_split ?_ (fun _ => ?_) (fun _ => ?_)); exact rfl) | (with_reducible refine c_split (fun _ => ?_) (fun _ => ?_)) | (with_reducible refine threadValidS_ok _ _ _ B' d' _ _ fm hx A' c' _ fl hq ?_) | (with_reducible refine l24Code_ok _ _ _ A' c' _ _ fl hq ?_))
        exact ⟨H, l1, h⟩
      | true =>
        repeat' (first | simp -implicitDefEqProofs only [zG1,zG2,zG3,zG4,zG5,zG6,zG7,eq_self,resV,rval,X.val,binv,fillL,setR,↓reduceIte,Nat.reduceEqDiff,Nat.reduceAdd,Nat.reduceMul,Nat.reduceLeDiff,Nat.reduceLT,Nat.reduceSub,reduceCtorEq,zGq, q, f1, f3, f4, g0, g1, g2, g0', g1', q1, q2, p1, p2, p3, hv, hr, Nat.mul_one] | ((with_reducible refine rows_intro (fun _ hb => ?_)); try simp only [set_none, ne_eq] at hb) | ((with_reducible refine new_intro (fun _ hb => ?_)); try simp only [set_none, ne_eq] at hb) | (with_reducible refine draw_same ?_) | ((with_reducible refine gd_split ?_ (fun _ => ?_) (fun _ => ?_)); exact rfl) | ((with_reducible refine td_split ?_ (fun _ => ?_) (fun _ => ?_)); exact rfl) | (with_reducible refine c_split (fun _ => ?_) (fun _ => ?_)) | (with_reducible refine threadValidS_ok _ _ _ B' d' _ _ fm hx A' c' _ fl hq ?_) | (with_reducible refine l24Code_ok _ _ _ A' c' _ _ fl hq ?_))
        refine hN _ _ _ (.refl _) ⟨rfl, fun i h1 h2 hik => ?_, (by first | rfl | (simp only [put_at, ↓reduceIte, Nat.reduceEqDiff]; first | done | rfl | assumption) | simp [put_at, *]), (by first | rfl | (simp only [put_at, ↓reduceIte, Nat.reduceEqDiff]; first | done | rfl | assumption) | simp [put_at, *]), (by first | rfl | (simp only [put_at, ↓reduceIte, Nat.reduceEqDiff]; first | done | rfl | assumption) | simp [put_at, *])⟩
        rcases Nat.lt_succ_iff_lt_or_eq.1 hik with hik | rfl
        · exact hw i h1 h2 hik
        · rw [hv, hr]; rfl
  · rintro fr D ⟨rfl, hw, f1, f3, f4⟩ N
    have g0 : decide ((c.threads.length : Int) < (c.threads.length : Int)) = false := by simp
    repeat' (first | simp -implicitDefEqProofs only [zG1,zG2,zG3,zG4,zG5,zG6,zG7,eq_self,resV,rval,X.val,binv,fillL,setR,↓reduceIte,Nat.reduceEqDiff,Nat.reduceAdd,Nat.reduceMul,Nat.reduceLeDiff,Nat.reduceLT,Nat.reduceSub,reduceCtorEq,zGq, q, f1, f3, f4, g0] | ((with_reducible refine rows_intro (fun _ hb => ?_)); try simp only [set_none, ne_eq] at hb) | ((with_reducible refine new_intro (fun _ hb => ?_)); try simp only [set_none, ne_eq] at hb) | (with_reducible refine draw_same ?_) | ((with_reducible refine gd_split ?_ (fun _ => ?_) (fun _ => ?_)); exact rfl) | ((with_reducible refine td_split ?_ (fun _ => ?_) (fun _ => ?_)); exact rfl) | (with_reducible refine c_split (fun _ => ?_) (fun _ => ?_)) | (with_reducible refine l4WordsL_ok _ _ _ A5 c5 _ hc'.f5 n5 ?_))
    cases hW : words c.log with
    | false =>
      rw [crewOk_pre (by rw [crewPre, hT, hW]; rfl)] at h
      exact ⟨H, l1, h⟩
    | true =>
      rw [crewOk_good (by rw [crewPre, hT, hW, e3, decide_eq_true hl]; rfl) fun i h1 h2 => hw i h1 h2 h1] at h
      exact ⟨H, l1, h⟩
end Go.Proofs.Ytfjhjfddgdokgaa
namespace Go.Proofs.Ytfjhjfddgdokgaa
set_option linter.all false
open Go Go.RowKit
section
variable {P : Program} {w0 : World}
theorem calls_mono {f : Nat} {args : List Value} {H : AHeap} {K1 K2 : Value → AHeap → Prop} (hk : ∀ v H, K1 v H → K2 v H) (h : ACalls P w0 f args H K1) : ACalls P w0 f args H K2 :=
  ⟨h.1, fun w hs => (h.2 w hs).mono fun e w' ⟨v, H', e1, e2, e3⟩ => ⟨v, H', e1, e2, hk v H' e3⟩⟩
theorem val_mono {x : X} {ρ : Operand → Value} {H : AHeap} {K1 K2 : Value → Prop} (hk : ∀ v, K1 v → K2 v) (h : sxVal P x ρ H K1) : sxVal P x ρ H K2 := by
  cases x <;> simp only [sxVal] at h ⊢ <;> first
    | (obtain ⟨v, hv, ha⟩ := needs_elim h; rw [hv]; exact hk _ ha)
    | (obtain ⟨r, hr, ha⟩ := h; exact ⟨r, hr, hk _ ha⟩)
theorem eff_mono {x : X} {ρ : Operand → Value} {H : AHeap} {K1 K2 : Value → AHeap → Prop} (hk : ∀ v H, K1 v H → K2 v H) (h : sxEff P w0 x ρ H K1) : sxEff P w0 x ρ H K2 := by
  have nm : ∀ {α : Type} (o : Option α) {A B : α → Prop}, (∀ a, A a → B a) → needs o A → needs o B := by
    intro α o A B hab hn
    obtain ⟨v, hv, ha⟩ := needs_elim hn
    rw [hv]; exact hab v ha
  by_cases hf : floats x = true
  · have e : ∀ K' : Value → AHeap → Prop, sxEff P w0 x ρ H K' = sxVal P x ρ H fun v => K' v H := by
      intro K'
      cases x <;> first | rfl | (cases hf; done)
    rw [e] at h ⊢
    exact val_mono (fun v => hk v H) h
  cases x <;> first
    | exact absurd rfl hf
    | (intro b hb; exact hk _ _ (h b hb))
    | skip
  case lit z t ln ps => exact nm _ (fun cs ha b hb => hk _ _ (ha b hb)) h
  case mks z t bytes l c =>
    simp only [sxEff] at h ⊢
    split at h
    · exact ⟨h.1, h.2.1, h.2.2.1, h.2.2.2.1, fun b hb => hk _ _ (h.2.2.2.2 b hb)⟩
    · exact h.elim
  case st n a x =>
    simp only [sxEff] at h ⊢
    split at h
    · obtain ⟨h1, k, h2, h3, h4, h5, h6, h7⟩ := h
      exact ⟨h1, k, h2, h3, h4, h5, h6, hk _ _ h7⟩
    · exact h.elim
  case app z t bytes s x =>
    simp only [sxEff] at h ⊢
    split at h
    · rcases h with ⟨h1, h2, h3, h4⟩ | ⟨xs, H1, news, h1, h2, h3, h4, h5, h6, h7⟩
      · exact .inl ⟨h1, h2, h3, hk _ _ h4⟩
      · exact .inr ⟨xs, H1, news, h1, h2, h3, h4, h5, h6, fun v' H' ho => hk _ _ (h7 v' H' ho)⟩
    · exact h.elim
  case call f a =>
    simp only [sxEff] at h ⊢
    split at h
    · exact calls_mono hk h
    · exact h.elim
theorem op_mono {o : XO} {fr : Fr} {H : AHeap} {K1 K2 : Fr → AHeap → Prop} (hk : ∀ fr H, K1 fr H → K2 fr H) (h : sxOp P w0 o K1 fr H) : sxOp P w0 o K2 fr H := by
  obtain ⟨d, x, g⟩ := o
  cases g with
  | none =>
    simp only [sxOp] at h ⊢
    exact eff_mono (fun v H => hk _ H) h
  | some g =>
    obtain ⟨t, b⟩ := g
    simp only [sxOp] at h ⊢
    cases ht : fr t <;> rw [ht] at h <;> first
      | exact hk _ _ h
      | exact ⟨fun e => eff_mono (fun v H => hk _ H) (h.1 e), fun e => hk _ _ (h.2 e)⟩
theorem take_mono {o : XO} {fr : Fr} {H : AHeap} {K1 K2 : Value → Prop} (hk : ∀ v, K1 v → K2 v) (h : sxTake P o K1 fr H) : sxTake P o K2 fr H := by
  obtain ⟨d, x, g⟩ := o
  cases g with
  | none =>
    simp only [sxTake] at h ⊢
    exact val_mono hk h
  | some g =>
    obtain ⟨t, b⟩ := g
    simp only [sxTake] at h ⊢
    cases ht : fr t <;> rw [ht] at h <;> first
      | exact hk _ h
      | exact ⟨fun e => val_mono hk (h.1 e), fun e => hk _ (h.2 e)⟩
theorem sch_mono {Hp : AHeap} {K1 K2 : Fr → AHeap → Prop} (hk : ∀ fr H, K1 fr H → K2 fr H) : ∀ (s : Sch) (fr : Fr) (H : AHeap), sxSch P w0 Hp s K1 fr H → sxSch P w0 Hp s K2 fr H
  | .done, fr, H, h => hk fr H h
  | .none_, _, _, _ => trivial
  | .take o r, fr, H, h => take_mono (fun v h' => sch_mono hk r _ H h') h
  | .alt o r m, fr, H, h => ⟨op_mono (fun fr' H' h' => ⟨h'.1, sch_mono hk r fr' H' h'.2⟩) h.1, sch_mono hk m fr H h.2⟩
  | .last o m, fr, H, h => ⟨op_mono hk h.1, sch_mono hk m fr H h.2⟩
  | .free o r m, fr, H, h => ⟨op_mono (fun fr' H' h' => sch_mono hk r fr' H' h') h.1, sch_mono hk m fr H h.2⟩
end
end Go.Proofs.Ytfjhjfddgdokgaa
namespace Go.Proofs.Ytfjhjfddgdokgaa
set_option linter.all false
open Go Go.RowKit
set_option maxRecDepth 100000
variable (w0 : World)
/-- What has been made so far. -/
def CoS (B C : AHeap) (a0 : Option (Value × List Value)) (a1 : Option (Value × List (List Value))) (a2 : Option Value) (a3 : Option Nat) : Prop :=
  AHeap.le B C ∧ ∃ b0 b1 b2 b3 : List Nat, (New B b0 ∧ New B b1 ∧ New B b2 ∧ New B b3) ∧ ((∀ y, y ∈ b0 → C y ≠ none) ∧ (∀ y, y ∈ b1 → C y ≠ none) ∧ (∀ y, y ∈ b2 → C y ≠ none) ∧ (∀ y, y ∈ b3 → C y ≠ none)) ∧
    (Apart b1 b0 ∧ Apart b2 b0 ∧ Apart b2 b1 ∧ Apart b3 b0 ∧ Apart b3 b1 ∧ Apart b3 b2) ∧
    (∀ v xs, a0 = some (v, xs) → Rw C 3 1 v xs.length xs b0) ∧ (∀ v L, a1 = some (v, L) → Rs C 35 3 1 v L b1) ∧ (∀ v, a2 = some v → Rw C 4 1 v 0 [] b2) ∧ (∀ x, a3 = some x → b3 = [x] ∧ Kn C x ⟨ocz, true, 78, 4⟩)
section
variable {B C : AHeap} {a0 : Option (Value × List Value)} {a1 : Option (Value × List (List Value))} {a2 : Option Value} {a3 : Option Nat} {K : Value → AHeap → Prop}
theorem CoS.le (s : CoS B C a0 a1 a2 a3) : AHeap.le B C := s.1
theorem CoS.start (B : AHeap) : CoS B B none none none none :=
  ⟨.refl _, [], [], [], [], ⟨New.nil _, New.nil _, New.nil _, New.nil _⟩, ⟨fun _ h => (by cases h), fun _ h => (by cases h), fun _ h => (by cases h), fun _ h => (by cases h)⟩, ⟨fun _ h => (by cases h), fun _ h => (by cases h), fun _ h => (by cases h), fun _ h => (by cases h), fun _ h => (by cases h), fun _ h => (by cases h)⟩, fun _ _ h => (by cases h), fun _ _ h => (by cases h), fun _ h => (by cases h), fun _ h => (by cases h)⟩
theorem new_apart {C : AHeap} {b : Nat} (hb : C b = none) {bs : List Nat} (h : ∀ y, y ∈ bs → C y ≠ none) : Apart [b] bs := fun y hy hm => by
  simp only [List.mem_cons, List.not_mem_nil, or_false] at hy; subst hy; exact h _ hm hb
theorem CoS.lit0 (s : CoS B C none a1 a2 a3) (h : ∀ b C', CoS B C' (some (.slice (some ⟨b, 0, none⟩) 0 0, [])) a1 a2 a3 → K (.slice (some ⟨b, 0, none⟩) 0 0) C') : rowsK K C 3 0 [] := by
  obtain ⟨l, b0, b1, b2, b3, ⟨n0, n1, n2, n3⟩, ⟨k0, k1, k2, k3⟩, ⟨d1, d2, d3, d4, d5, d6⟩, r0, r1, r2, r3⟩ := s
  intro b hb
  have lc := (AHeap.le.refl C).fresh hb ⟨[], true, 3, 0⟩
  have kn := Kn.same C b ⟨[], true, 3, 0⟩
  refine h b _ ⟨l.trans lc, [b], b1, b2, b3, ⟨New.one (l.none hb), n1, n2, n3⟩, ⟨fun y hy => ?_, fun y hy => le_kept lc (k1 y hy), fun y hy => le_kept lc (k2 y hy), fun y hy => le_kept lc (k3 y hy)⟩, ⟨(new_apart hb k1).symm, (new_apart hb k2).symm, d3, (new_apart hb k3).symm, d5, d6⟩, fun v xs e => ?_, fun v L e => (r1 v L e).trans lc, fun v e => (r2 v e).trans lc, fun x e => ⟨(r3 x e).1, (r3 x e).2.trans lc⟩⟩
  · simp only [List.mem_cons, List.not_mem_nil, or_false] at hy; subst hy; exact kn.ne
  · cases e; exact Rw.mk kn rfl (Nat.le_refl _) (Nat.zero_le _)
theorem CoS.lit2 (s : CoS B C a0 a1 none a3) (h : ∀ b C', CoS B C' a0 a1 (some (.slice (some ⟨b, 0, none⟩) 0 0)) a3 → K (.slice (some ⟨b, 0, none⟩) 0 0) C') : rowsK K C 4 0 [] := by
  obtain ⟨l, b0, b1, b2, b3, ⟨n0, n1, n2, n3⟩, ⟨k0, k1, k2, k3⟩, ⟨d1, d2, d3, d4, d5, d6⟩, r0, r1, r2, r3⟩ := s
  intro b hb
  have lc := (AHeap.le.refl C).fresh hb ⟨[], true, 4, 0⟩
  have kn := Kn.same C b ⟨[], true, 4, 0⟩
  refine h b _ ⟨l.trans lc, b0, b1, [b], b3, ⟨n0, n1, New.one (l.none hb), n3⟩, ⟨fun y hy => le_kept lc (k0 y hy), fun y hy => le_kept lc (k1 y hy), fun y hy => ?_, fun y hy => le_kept lc (k3 y hy)⟩, ⟨d1, new_apart hb k0, new_apart hb k1, d4, d5, (new_apart hb k3).symm⟩, fun v xs e => (r0 v xs e).trans lc, fun v L e => (r1 v L e).trans lc, fun v e => ?_, fun x e => ⟨(r3 x e).1, (r3 x e).2.trans lc⟩⟩
  · simp only [List.mem_cons, List.not_mem_nil, or_false] at hy; subst hy; exact kn.ne
  · cases e; exact Rw.mk kn rfl (Nat.le_refl _) (Nat.zero_le _)
theorem CoS.new3 (s : CoS B C a0 a1 a2 none) {b : Nat} (hb : C b = none) : CoS B (C.set b ⟨ocz, true, 78, 4⟩) a0 a1 a2 (some b) := by
  obtain ⟨l, b0, b1, b2, b3, ⟨n0, n1, n2, n3⟩, ⟨k0, k1, k2, k3⟩, ⟨d1, d2, d3, d4, d5, d6⟩, r0, r1, r2, r3⟩ := s
  have lc := (AHeap.le.refl C).fresh hb ⟨ocz, true, 78, 4⟩
  have kn := Kn.same C b ⟨ocz, true, 78, 4⟩
  refine ⟨l.trans lc, b0, b1, b2, [b], ⟨n0, n1, n2, New.one (l.none hb)⟩, ⟨fun y hy => le_kept lc (k0 y hy), fun y hy => le_kept lc (k1 y hy), fun y hy => le_kept lc (k2 y hy), fun y hy => ?_⟩, ⟨d1, d2, d3, new_apart hb k0, new_apart hb k1, new_apart hb k2⟩, fun v xs e => (r0 v xs e).trans lc, fun v L e => (r1 v L e).trans lc, fun v e => (r2 v e).trans lc, fun x e => ?_⟩
  · simp only [List.mem_cons, List.not_mem_nil, or_false] at hy; subst hy; exact kn.ne
  · cases e; exact ⟨rfl, kn⟩
theorem CoS.call1 (s : CoS B C a0 none a2 a3) {A : Option Addr} {d : Nat} {ts : List (List Int × Int)} (hs : FP B A 1 0 ts) (hm : ts.length ≤ 1048576) (hL : ∀ x ∈ ts, x.1.length ≤ 1048576) (h : ∀ V e C', CoS B C' a0 (some (.slice V (boxI ts).length e, boxI ts)) a2 a3 → K (.slice V (boxI ts).length e) C') : ACalls Try.prog w0 108 [.slice A ts.length d] C K := by
  obtain ⟨l, b0, b1, b2, b3, ⟨n0, n1, n2, n3⟩, ⟨k0, k1, k2, k3⟩, ⟨d1, d2, d3, d4, d5, d6⟩, r0, r1, r2, r3⟩ := s
  refine l16Items_ok w0 C K A d ts (hs.le l) hm hL (fun v C' bs lc nb kb R => ?_)
  obtain ⟨V, e, rfl⟩ := R.slice
  exact h V e C' ⟨l.trans lc, b0, bs, b2, b3, ⟨n0, nb.le l, n2, n3⟩, ⟨fun y hy => le_kept lc (k0 y hy), kb, fun y hy => le_kept lc (k2 y hy), fun y hy => le_kept lc (k3 y hy)⟩, ⟨fun y h1 h2 => k0 y h2 (nb y h1), d2, fun y h1 h2 => k2 y h1 (nb y h2), d4, fun y h1 h2 => k3 y h1 (nb y h2), d6⟩, fun v xs e => (r0 v xs e).trans lc, fun v L e => by cases e; exact R, fun v e => (r2 v e).trans lc, fun x e => ⟨(r3 x e).1, (r3 x e).2.trans lc⟩⟩
theorem CoS.app0 {v : Value} (s : CoS B C (some (v, [])) a1 a2 a3) {A : Option Addr} {d : Nat} {xs : List Int} {z : Value} (hz : [z].length = 1) (hx : Fl B A (ints xs)) (hn : xs.length ≤ 1048576) (h : ∀ V e C', CoS B C' (some (.slice V xs.length e, ints xs)) a1 a2 a3 → K (.slice V xs.length e) C') : appK Try.prog w0 [z] 3 8 v (.slice A xs.length d) K C := by
  obtain ⟨l, b0, b1, b2, b3, ⟨n0, n1, n2, n3⟩, ⟨k0, k1, k2, k3⟩, ⟨d1, d2, d3, d4, d5, d6⟩, r0, r1, r2, r3⟩ := s
  refine app_rw (n := 0) (news := ints xs) (by have := r0 _ _ rfl; simpa using this) (hx.le l) (by rw [ints_len]; simp) (ints_oc _) (by simp only [maxLen]; omega) (by omega) (fun v' C' b' hc hn' w => ?_)
  rw [Nat.zero_add, List.nil_append] at w
  have off : ∀ {bs : List Nat}, Apart bs b0 → (∀ y, y ∈ bs → C y ≠ none) → Apart bs b' := fun h1 h2 y hy hm => (hn' y hm).elim (h1 y hy) (h2 y hy)
  obtain ⟨V, e, rfl, -⟩ := w.fl
  refine h V e C' ⟨hc.keep l n0, b', b1, b2, b3, ⟨fun y hy => (hn' y hy).elim (n0 y) fun hm => l.none hm, n1, n2, n3⟩, ⟨rw_kn w, fun y hy => hc.kept (k1 y hy) (d1 y hy), fun y hy => hc.kept (k2 y hy) (d2 y hy), fun y hy => hc.kept (k3 y hy) (d4 y hy)⟩, ⟨off d1 k1, off d2 k2, d3, off d4 k3, d5, d6⟩, fun v xs e => ?_, fun v L e => (r1 v L e).chg hc d1, fun v e => (r2 v e).chg hc d2, fun x e => ⟨(r3 x e).1, (r3 x e).2.chg hc ?_⟩⟩
  · cases e; rw [ints_len]; exact w
  · exact d4 x (by rw [(r3 x e).1]; simp)
theorem CoS.new3' (s : CoS B C a0 a1 a2 none) (h : ∀ b C', CoS B C' a0 a1 a2 (some b) → K (.pointer (some ⟨b, 0, none⟩)) C') : newK K C ⟨ocz, true, 78, 4⟩ := new_intro fun b hb => h b _ (s.new3 hb)
/-- The outcome in its block, to be grown. -/
def CoF (B C : AHeap) (o : Oc) (x : Nat) : Prop := ∃ v0 v1 v2 b0 b1 b2, AHeap.le B C ∧ OwO C o v0 v1 v2 b0 b1 b2 ∧ (New B b0 ∧ New B b1 ∧ New B b2) ∧ B x = none ∧ (¬ x ∈ b0 ∧ ¬ x ∈ b1 ∧ ¬ x ∈ b2) ∧ Kn C x ⟨[v0, v1, v2, .bool o.rest], true, 78, 4⟩
theorem CoS.st {v0 v1 v2 : Value} {xs : List Int} {ts : List (List Int × Int)} {x : Nat} {r : Bool} (s : CoS B C (some (v0, ints xs)) (some (v1, boxI ts)) (some v2) (some x)) (h : ∀ C', AHeap.le B C' → CoF B C' ⟨xs, ts.map (·.1), [], r⟩ x → K undef C') : stK 4 (.pointer (some ⟨x, 0, none⟩)) (.agg #[v0, v1, v2, .bool r]) K C := by
  obtain ⟨l, b0, b1, b2, b3, ⟨n0, n1, n2, n3⟩, ⟨k0, k1, k2, k3⟩, ⟨d1, d2, d3, d4, d5, d6⟩, r0, r1, r2, r3⟩ := s
  have R0 := r0 _ _ rfl
  have R1 := r1 _ _ rfl
  have R2 := r2 _ rfl
  obtain ⟨rfl, kx⟩ := r3 _ rfl
  rw [ints_len] at R0
  obtain ⟨V0, e0, rfl, -⟩ := R0.fl
  obtain ⟨V1, e1, rfl⟩ := R1.slice
  obtain ⟨V2, e2, rfl, -⟩ := R2.fl
  refine st_own kx [.slice V0 xs.length e0, .slice V1 (boxI ts).length e1, .slice V2 0 e2, .bool r] rfl rfl (by simp) (by simp [ocS, Value.oneCell']) (fun C' hc k => ?_)
  simp only [setR, List.set_cons_zero, List.set_cons_succ] at k
  have l' := hc.keep l n3
  have na : ∀ {bs : List Nat}, Apart [x] bs → ¬ x ∈ bs := fun h hm => h x (by simp) hm
  exact h C' l' ⟨_, _, _, b0, b1, b2, l', ⟨R0.chg hc d4.symm, R1.chg hc d5.symm, R2.chg hc d6.symm, d1, d2, d3, fun y hy => by
    simp only [List.mem_append] at hy
    rcases hy with hy | hy | hy
    · exact hc.kept (k0 y hy) (d4.symm y hy)
    · exact hc.kept (k1 y hy) (d5.symm y hy)
    · exact hc.kept (k2 y hy) (d6.symm y hy)⟩, ⟨n0, n1, n2⟩, n3 x (by simp), ⟨na d4, na d5, na d6⟩, k⟩
/-- Where the region leaves off. -/
def CoK (B : AHeap) (x1 x2 : Nat) (o : Oc) (fr : Fr) (D : AHeap) : Prop := ∃ x3, CoF B D o x3 ∧ fr 1 = .pointer (some ⟨x1, 0, none⟩) ∧ fr 2 = .pointer (some ⟨x2, 0, none⟩) ∧ fr 3 = .pointer (some ⟨x3, 0, none⟩)
theorem OwO.app {C' : AHeap} {o : Oc} {v0 v1 v2 v' : Value} {b0 b1 b2 b8 : List Nat} (h : OwO C o v0 v1 v2 b0 b1 b2) (hc : Chg C C' b2) (hn : ∀ y, y ∈ b8 → y ∈ b2 ∨ C y = none) (es : List Bool) (w : Rw C' 4 1 v' es.length (bools es) b8) : OwO C' ⟨o.out, o.items, es, o.rest⟩ v0 v1 v' b0 b1 b8 :=
  ⟨h.r0.chg hc h.d02.symm, h.r1.chg hc h.d12.symm, w, h.d01, fun y hy hm => (hn y hy).elim (fun h2 => h.d02 y h2 hm) (h.kn y (by simp [hm])), fun y hy hm => (hn y hy).elim (fun h2 => h.d12 y h2 hm) (h.kn y (by simp [hm])), fun y hy => by
    simp only [List.mem_append] at hy
    rcases hy with hy | hy | hy
    · exact hc.kept (h.kn y (by simp [hy])) (h.d02.symm y hy)
    · exact hc.kept (h.kn y (by simp [hy])) (h.d12.symm y hy)
    · exact rw_kn w y hy⟩
end
section
variable (H : AHeap) (K : Value → AHeap → Prop) (c : Cr) (A0 : Option Addr) (c0 : Nat) (A1 : Option Addr) (c1 : Nat) (A2 : Option Addr) (c2 : Nat) (A5 : Option Addr) (c5 : Nat)
theorem crewOutcomeS_ok (hc : CrR H c A0 A1 A2 A5) (hb : CrB 1048576 c) (h : ∀ v0 v1 v2 b0 b1 b2 C, AHeap.le H C → OwO C (crewOutcome c) v0 v1 v2 b0 b1 b2 → New H b0 → New H b1 → New H b2 → K (.agg #[v0, v1, v2, .bool (crewOutcome c).rest]) C) :
    ACalls Try.prog w0 46 [crv c A0 c0 A1 c1 A2 c2 A5 c5] H K := by
  refine acalls_of_sx mix Try.func46 of46 (by simp [ir46]) ?_; rw [ir46]; (try delta qT qI qC qO qM qG)
  repeat' (first | simp -implicitDefEqProofs only [zG1,zG2,zG3,zG4,zG5,zG6,zG7,eq_self,resV,rval,X.val,binv,fillL,setR,↓reduceIte,Nat.reduceEqDiff,Nat.reduceAdd,Nat.reduceMul,Nat.reduceLeDiff,Nat.reduceLT,Nat.reduceSub,reduceCtorEq,zGq])
  refine new_intro (fun x1 h1 => ?_)
  repeat' (first | simp -implicitDefEqProofs only [zG1,zG2,zG3,zG4,zG5,zG6,zG7,eq_self,resV,rval,X.val,binv,fillL,setR,↓reduceIte,Nat.reduceEqDiff,Nat.reduceAdd,Nat.reduceMul,Nat.reduceLeDiff,Nat.reduceLT,Nat.reduceSub,reduceCtorEq,zGq])
  refine new_intro (fun x2 h2 => ?_)
  simp only [set_none, ne_eq] at h2
  have l1 := ((AHeap.le.refl H).fresh h1 ⟨crc c A0 c0 A1 c1 A2 c2 A5 c5, true, 62, 6⟩).fresh (set_none.2 h2) ⟨ocz, true, 78, 4⟩
  have k1 : Kn ((H.set x1 ⟨crc c A0 c0 A1 c1 A2 c2 A5 c5, true, 62, 6⟩).set x2 ⟨ocz, true, 78, 4⟩) x1 ⟨crc c A0 c0 A1 c1 A2 c2 A5 c5, true, 62, 6⟩ := (Kn.same _ _ _).set (fun e => h2.1 e.symm) _
  have k2 := Kn.same (H.set x1 ⟨crc c A0 c0 A1 c1 A2 c2 A5 c5, true, 62, 6⟩) x2 ⟨ocz, true, 78, 4⟩
  generalize (H.set x1 _).set x2 _ = C1 at l1 k1 k2 ⊢
  have q := kn6 k1
  have r1 := rd6 k1
  have hc1 := hc.le l1
  cases hv : crewOk c with
  | false =>
    have e : crewOutcome c = ⟨[], [], [], false⟩ := by rw [crewOutcome, hv]; rfl
    rw [e] at h
    repeat' (first | simp -implicitDefEqProofs only [zG1,zG2,zG3,zG4,zG5,zG6,zG7,eq_self,resV,rval,X.val,binv,fillL,setR,↓reduceIte,Nat.reduceEqDiff,Nat.reduceAdd,Nat.reduceMul,Nat.reduceLeDiff,Nat.reduceLT,Nat.reduceSub,reduceCtorEq,zGp, r1, hv] | (with_reducible refine crewValidS_ok w0 _ _ c A0 c0 A1 c1 A2 c2 A5 c5 hc1 hb ?_))
    refine st_own k2 ocz rfl rfl (by simp) (by simp [ocS, Value.oneCell']) (fun C2 hc2 k2 => ?_)
    simp only [setR, List.set_cons_zero, List.set_cons_succ] at k2
    have r2 := rd4 k2
    repeat' (first | simp -implicitDefEqProofs only [zG1,zG2,zG3,zG4,zG5,zG6,zG7,eq_self,resV,rval,X.val,binv,fillL,setR,↓reduceIte,Nat.reduceEqDiff,Nat.reduceAdd,Nat.reduceMul,Nat.reduceLeDiff,Nat.reduceLT,Nat.reduceSub,reduceCtorEq,zGp, r2])
    exact ret_same (h _ _ _ [] [] [] C2 (hc2.keep l1 (New.one h2.2)) (OwO.nil _) (New.nil _) (New.nil _) (New.nil _))
  | true =>
    have e : crewOutcome c = ⟨c.log, c.boxes.map (·.1), endL c, c.last == (c.threads.length : Int)⟩ := by rw [crewOutcome, hv]; rfl
    rw [e] at h
    obtain ⟨ln1, ln2, ln3⟩ := crewOk_len hv
    have ln4 := endL_len ln1
    repeat' (first | simp -implicitDefEqProofs only [zG1,zG2,zG3,zG4,zG5,zG6,zG7,eq_self,resV,rval,X.val,binv,fillL,setR,↓reduceIte,Nat.reduceEqDiff,Nat.reduceAdd,Nat.reduceMul,Nat.reduceLeDiff,Nat.reduceLT,Nat.reduceSub,reduceCtorEq,zGp, r1, hv] | (with_reducible refine crewValidS_ok w0 _ _ c A0 c0 A1 c1 A2 c2 A5 c5 hc1 hb ?_))
    refine draw_at C1 (.refl C1) ?_
    refine sch_mono (K1 := CoK C1 x1 x2 ⟨c.log, c.boxes.map (·.1), [], c.last == (c.threads.length : Int)⟩) ?_ _ _ _ ?_
    · rintro fr C3 ⟨x3, ⟨v0, v1, v2, b0, b1, b2, l3, o3, ⟨n0, n1, n2⟩, h3, ⟨m0, m1, m2⟩, k3⟩, f1, f2, f3⟩
      repeat' (first | simp -implicitDefEqProofs only [zG1,zG2,zG3,zG4,zG5,zG6,zG7,eq_self,resV,rval,X.val,binv,fillL,setR,↓reduceIte,Nat.reduceEqDiff,Nat.reduceAdd,Nat.reduceMul,Nat.reduceLeDiff,Nat.reduceLT,Nat.reduceSub,reduceCtorEq,zGq, f1, f2, f3])
      refine for_rule c.threads.length (fun k fr C => ∃ v2 b2, AHeap.le C1 C ∧ New C1 b2 ∧ OwO C ⟨c.log, c.boxes.map (·.1), (endL c).take k, c.last == (c.threads.length : Int)⟩ v0 v1 v2 b0 b1 b2 ∧ ¬ x3 ∈ b2 ∧
          Kn C x3 ⟨[v0, v1, v2, .bool (c.last == (c.threads.length : Int))], true, 78, 4⟩ ∧ fr 1 = .pointer (some ⟨x1, 0, none⟩) ∧ fr 2 = .pointer (some ⟨x2, 0, none⟩) ∧ fr 3 = .pointer (some ⟨x3, 0, none⟩) ∧ fr 4 = .int .i64 k)
        ⟨v2, b2, l3, n2, by rw [List.take_zero]; exact o3, m2, k3, (by first | rfl | (simp only [put_at, ↓reduceIte, Nat.reduceEqDiff]; first | done | rfl | assumption) | simp [put_at, *]), (by first | rfl | (simp only [put_at, ↓reduceIte, Nat.reduceEqDiff]; first | done | rfl | assumption) | simp [put_at, *]), (by first | rfl | (simp only [put_at, ↓reduceIte, Nat.reduceEqDiff]; first | done | rfl | assumption) | simp [put_at, *]), (by first | rfl | (simp only [put_at, ↓reduceIte, Nat.reduceEqDiff]; first | done | rfl | assumption) | simp [put_at, *])⟩ ?_ ?_
      · rintro k fr C hk ⟨v2, b2, hle, hn2, w2, n3b, k3, f1, f2, f3, f4⟩ N hN
        have hk2 : k < c.codes.length := by omega
        have g0 := lt_dec hk
        have g1 := rng hk
        have g1' := rng hk2
        have g2 := up1 hk (by omega)
        have hek : ((endL c).take k).length = k := by rw [List.length_take, ln4]; omega
        obtain ⟨V2, e2, rfl, -⟩ := w2.r2.fl
        have hcC := hc1.le hle
        obtain ⟨gA, B', d', p1, p2, fm⟩ := hcC.f1 k hk
        have z3 := k3.cell (j := 2) rfl
        have kx1 := k1.trans hle
        have q6 := kn6 kx1
        obtain ⟨gC, A', c', z6, fl⟩ := hcC.f0 k hk2
        obtain ⟨t0, t1⟩ := crewOk_at hv hk hk2
        obtain ⟨n, hn, hnt, hne⟩ := endB_at t0 t1
        have pA := fl.qd_is hn
        have p0 := fl.q0 hn
        have g3 := rng hn
        rw [hnt] at p2
        repeat' (first | simp -implicitDefEqProofs only [zG1,zG2,zG3,zG4,zG5,zG6,zG7,eq_self,resV,rval,X.val,binv,fillL,setR,↓reduceIte,Nat.reduceEqDiff,Nat.reduceAdd,Nat.reduceMul,Nat.reduceLeDiff,Nat.reduceLT,Nat.reduceSub,reduceCtorEq,zGq, f1, f2, f3, f4, q6, g0, g1, g1', g3, gA, gC, z3, z6, p2, pA, p0, Nat.mul_one, Nat.add_zero] | ((with_reducible refine rows_intro (fun _ hb => ?_)); try simp only [set_none, ne_eq] at hb) | ((with_reducible refine new_intro (fun _ hb => ?_)); try simp only [set_none, ne_eq] at hb) | (with_reducible refine draw_same ?_) | ((with_reducible refine gd_split ?_ (fun _ => ?_) (fun _ => ?_)); exact rfl) | ((with_reducible refine td_split ?_ (fun _ => ?_) (fun _ => ?_)); exact rfl) | (with_reducible refine c_split (fun _ => ?_) (fun _ => ?_)))
        rename_i x10
        have h10 : C x10 = none := by assumption
        have l10 := (AHeap.le.refl C).fresh h10 ⟨[.bool (c.codes[k][n].op == 10)], true, 4, 1⟩
        have fl10 : Fl (C.set x10 ⟨[.bool (c.codes[k][n].op == 10)], true, 4, 1⟩) (some ⟨x10, 0, none⟩) [.bool (c.codes[k][n].op == 10)] := Fl.blk _ _ _ _ fun _ _ h => h
        generalize C.set x10 _ = C7 at l10 fl10 ⊢
        refine ⟨l10, ?_⟩
        have L7 := hle.trans l10
        have w7 := w2.trans l10
        refine app_rw (news := [.bool (c.codes[k][n].op == 10)]) w7.r2 fl10 rfl (by simp [Value.oneCell']) (by simp only [maxLen]; omega) (by simp only; omega) (fun v8 C8 b8 h8 n8 w8 => ?_)
        have k38 := (k3.trans l10).chg h8 n3b
        have n38 : ¬ x3 ∈ b8 := fun hm => (n8 _ hm).elim n3b (k3.trans l10).ne
        have new8 : New C1 b8 := fun y hy => (n8 y hy).elim (hn2 y) fun hm => L7.none hm
        have eqB : bools ((endL c).take k) ++ [.bool (c.codes[k][n].op == 10)] = bools ((endL c).take (k + 1)) := by
          rw [endL_take hk hk2, hne]; simp [bools]
        have hek1 : ((endL c).take (k + 1)).length = k + 1 := by rw [List.length_take, ln4]; omega
        simp only [List.length_cons, List.length_nil, Nat.zero_add, hek] at w8
        have w8' : Rw C8 4 1 v8 ((endL c).take (k + 1)).length (bools ((endL c).take (k + 1))) b8 := by rw [hek1, ← eqB]; exact w8
        have o8 := w7.app h8 n8 _ w8'
        obtain ⟨V8, e8, rfl, -⟩ := w8.fl
        have L8 := h8.keep L7 hn2
        repeat' (first | simp -implicitDefEqProofs only [zG1,zG2,zG3,zG4,zG5,zG6,zG7,eq_self,resV,rval,X.val,binv,fillL,setR,↓reduceIte,Nat.reduceEqDiff,Nat.reduceAdd,Nat.reduceMul,Nat.reduceLeDiff,Nat.reduceLT,Nat.reduceSub,reduceCtorEq,zGq, f1, f2, f3, f4])
        refine st_own k38 [_] rfl rfl (by simp) (by simp [ocS]) (fun C9 h9 k9 => ?_)
        simp only [setR, List.set_cons_zero, List.set_cons_succ] at k9
        repeat' (first | simp -implicitDefEqProofs only [zG1,zG2,zG3,zG4,zG5,zG6,zG7,eq_self,resV,rval,X.val,binv,fillL,setR,↓reduceIte,Nat.reduceEqDiff,Nat.reduceAdd,Nat.reduceMul,Nat.reduceLeDiff,Nat.reduceLT,Nat.reduceSub,reduceCtorEq,zGq, f1, f2, f3, f4, g2])
        refine hN _ _ _ (.refl _) ⟨_, b8, h9.keep L8 (New.one h3), new8, o8.chg h9 (fun y hy hm => ?_), n38, k9, (by first | rfl | (simp only [put_at, ↓reduceIte, Nat.reduceEqDiff]; first | done | rfl | assumption) | simp [put_at, *]), (by first | rfl | (simp only [put_at, ↓reduceIte, Nat.reduceEqDiff]; first | done | rfl | assumption) | simp [put_at, *]), (by first | rfl | (simp only [put_at, ↓reduceIte, Nat.reduceEqDiff]; first | done | rfl | assumption) | simp [put_at, *]), (by first | rfl | (simp only [put_at, ↓reduceIte, Nat.reduceEqDiff]; first | done | rfl | assumption) | simp [put_at, *])⟩
        simp only [List.mem_append, List.mem_cons, List.not_mem_nil, or_false] at hy hm
        subst hm
        rcases hy with hy | hy | hy
        · exact m0 hy
        · exact m1 hy
        · exact n38 hy
      · rintro fr C ⟨v2, b2, hle, hn2, w2, n3b, k3, f1, f2, f3, f4⟩ N
        have g0 : decide ((c.threads.length : Int) < (c.threads.length : Int)) = false := by simp
        have ew : (endL c).take c.threads.length = endL c := by rw [← ln4, List.take_length]
        rw [ew] at w2
        have kx1 := k1.trans hle
        have q6 := kn6 kx1
        have r3 := rd4 k3
        obtain ⟨D0, a0, D1, a1, D2, a2, rfl, rfl, rfl⟩ := w2.open_
        repeat' (first | simp -implicitDefEqProofs only [zG1,zG2,zG3,zG4,zG5,zG6,zG7,eq_self,resV,rval,X.val,binv,fillL,setR,↓reduceIte,Nat.reduceEqDiff,Nat.reduceAdd,Nat.reduceMul,Nat.reduceLeDiff,Nat.reduceLT,Nat.reduceSub,reduceCtorEq,zGp, f1, f2, f3, f4, g0, r3, q6])
        refine st_own (k2.trans hle) [.slice D0 c.log.length a0, .slice D1 (c.boxes.map (·.1)).length a1, .slice D2 (endL c).length a2, .bool (c.last == (c.threads.length : Int))] rfl rfl (by simp) (by simp [ocS, Value.oneCell']) (fun C9 h9 k9 => ?_)
        simp only [setR, List.set_cons_zero, List.set_cons_succ] at k9
        have r9 := rd4 k9
        repeat' (first | simp -implicitDefEqProofs only [zG1,zG2,zG3,zG4,zG5,zG6,zG7,eq_self,resV,rval,X.val,binv,fillL,setR,↓reduceIte,Nat.reduceEqDiff,Nat.reduceAdd,Nat.reduceMul,Nat.reduceLeDiff,Nat.reduceLT,Nat.reduceSub,reduceCtorEq,zGp, f2, r9])
        refine ret_same (h _ _ _ b0 b1 b2 C9 (h9.keep (l1.trans hle) (New.one h2.2)) (w2.chg h9 (fun y hy hm => ?_)) (n0.le l1) (n1.le l1) (hn2.le l1))
        simp only [List.mem_append, List.mem_cons, List.not_mem_nil, or_false] at hy hm
        subst hm
        rcases hy with hy | hy | hy
        · exact k2.ne (n0 _ hy)
        · exact k2.ne (n1 _ hy)
        · exact k2.ne (hn2 _ hy)
    · have s := CoS.start C1
      repeat' (first | simp -implicitDefEqProofs only [zG1,zG2,zG3,zG4,zG5,zG6,zG7,eq_self,resV,rval,X.val,binv,fillL,setR,↓reduceIte,Nat.reduceEqDiff,Nat.reduceAdd,Nat.reduceMul,Nat.reduceLeDiff,Nat.reduceLT,Nat.reduceSub,reduceCtorEq,zGq, q] | (with_reducible exact s.le) | (with_reducible refine And.intro ?_ ?_) | (with_reducible refine s.lit0 (fun b C s => ?_)) | (with_reducible refine s.lit2 (fun b C s => ?_)) | (with_reducible refine s.new3' (fun b C s => ?_)) | (with_reducible refine s.call1 w0 hc1.f2 hb.n2 hb.m2 (fun V e C s => ?_)) | (with_reducible refine s.app0 w0 rfl hc1.f5 hb.n5 (fun V e C s => ?_)) | (with_reducible refine s.st (fun C l s => ?_)) | (with_reducible assumption))
      all_goals exact ⟨_, s, (by first | rfl | (simp only [put_at, ↓reduceIte, Nat.reduceEqDiff]; first | done | rfl | assumption) | simp [put_at, *]), (by first | rfl | (simp only [put_at, ↓reduceIte, Nat.reduceEqDiff]; first | done | rfl | assumption) | simp [put_at, *]), (by first | rfl | (simp only [put_at, ↓reduceIte, Nat.reduceEqDiff]; first | done | rfl | assumption) | simp [put_at, *])⟩
end
end Go.Proofs.Ytfjhjfddgdokgaa
namespace Go.Proofs.Ytfjhjfddgdokgaa
set_option linter.all false
open Go Go.RowKit
set_option maxRecDepth 100000
variable (w0 : World) (H : AHeap) (K : Value → AHeap → Prop)
theorem markQuadSS_rs (A : Option Addr) (m c : Nat) (L : List (List Value)) (bs : List Nat) (k0 : Int) (hR : Rs H 29 111 5 (.slice A m c) L bs) (hn : L.length ≤ 1048576) (h0 : 0 ≤ k0) (h1 : k0 + 5 * (tot 5 L : Int) ≤ 4294967295)
    (h : ∀ C' M, Chg H C' bs → Marked 5 (fun k n => ints (marks k (n * 5))) k0 5 L M → Rs C' 29 111 5 (.slice A m c) M bs → K (.int .i64 (k0 + 5 * (tot 5 L : Int))) C') : ACalls Try.prog w0 30 [.slice A m c, .int .i64 k0] H K := by
  have em := hR.len
  subst em
  refine acalls_of_sx mix Try.func30 of30 (by simp [ir30]) ?_; rw [ir30]; (try delta qT qI qC qO qM qG)
  repeat' (first | simp -implicitDefEqProofs only [zG1,zG2,zG3,zG4,zG5,zG6,zG7,eq_self,resV,rval,X.val,binv,fillL,setR,↓reduceIte,Nat.reduceEqDiff,Nat.reduceAdd,Nat.reduceMul,Nat.reduceLeDiff,Nat.reduceLT,Nat.reduceSub,reduceCtorEq,zGq] | ((with_reducible refine rows_intro (fun _ hb => ?_)); try simp only [set_none, ne_eq] at hb) | ((with_reducible refine new_intro (fun _ hb => ?_)); try simp only [set_none, ne_eq] at hb) | (with_reducible refine draw_same ?_) | ((with_reducible refine gd_split ?_ (fun _ => ?_) (fun _ => ?_)); exact rfl) | ((with_reducible refine td_split ?_ (fun _ => ?_) (fun _ => ?_)); exact rfl) | (with_reducible refine c_split (fun _ => ?_) (fun _ => ?_)))
  refine for_rule L.length (fun i fr C => ∃ M, Chg H C bs ∧ Midd 5 (fun k n => ints (marks k (n * 5))) k0 5 L M i ∧ Rs C 29 111 5 (.slice A L.length c) M bs ∧ fr 0 = .slice A L.length c ∧ fr 1 = .int .i64 (k0 + 5 * (tot 5 (L.take i) : Int)) ∧ fr 5 = .int .i64 i)
    ⟨L, Chg.refl _ _, Midd.start, hR, (by first | rfl | (simp only [put_at, ↓reduceIte, Nat.reduceEqDiff]; first | done | rfl | assumption) | simp [put_at, *]), by simp [fr0, put_at, tot], (by first | rfl | (simp only [put_at, ↓reduceIte, Nat.reduceEqDiff]; first | done | rfl | assumption) | simp [put_at, *])⟩ ?_ ?_
  · rintro i fr C hi ⟨M, hc, hM, hR', f0, f1, f5⟩ N hN
    have hMl := hM.1
    have g0 := lt_dec hi
    have g1 := rng hi
    have g3 := up1 hi (by omega)
    obtain ⟨q1, x, ib, n, q2, wx, hib, -, put⟩ := hR'.inner (i := i) (by omega)
    obtain ⟨A', c', rfl⟩ := wx.slice
    have hlen := wx.len
    have hMi : M[i]'(by omega) = L[i] := hM.at_ hi
    rw [hMi] at wx hlen
    have htk := tot_take (sz := 5) hi hlen
    have hts := tot_take_le 5 L (i + 1)
    repeat' (first | simp -implicitDefEqProofs only [zG1,zG2,zG3,zG4,zG5,zG6,zG7,eq_self,resV,rval,X.val,binv,fillL,setR,↓reduceIte,Nat.reduceEqDiff,Nat.reduceAdd,Nat.reduceMul,Nat.reduceLeDiff,Nat.reduceLT,Nat.reduceSub,reduceCtorEq,zGq, f0, f1, f5, g0, g1, q1, q2, Nat.mul_one] | ((with_reducible refine rows_intro (fun _ hb => ?_)); try simp only [set_none, ne_eq] at hb) | ((with_reducible refine new_intro (fun _ hb => ?_)); try simp only [set_none, ne_eq] at hb) | (with_reducible refine draw_same ?_) | ((with_reducible refine gd_split ?_ (fun _ => ?_) (fun _ => ?_)); exact rfl) | ((with_reducible refine td_split ?_ (fun _ => ?_) (fun _ => ?_)); exact rfl) | (with_reducible refine c_split (fun _ => ?_) (fun _ => ?_)))
    refine markQuadS_rw _ _ _ wx (by omega) _ (by omega) (by omega) (fun C2 hc2 w2 => ?_)
    have R2 := put C2 _ hc2 w2
    have e1 : k0 + 5 * (tot 5 (L.take i) : Int) + 5 * (n : Int) = k0 + 5 * (tot 5 (L.take (i + 1)) : Int) := by rw [htk]; push_cast; omega
    rw [e1]
    repeat' (first | simp -implicitDefEqProofs only [zG1,zG2,zG3,zG4,zG5,zG6,zG7,eq_self,resV,rval,X.val,binv,fillL,setR,↓reduceIte,Nat.reduceEqDiff,Nat.reduceAdd,Nat.reduceMul,Nat.reduceLeDiff,Nat.reduceLT,Nat.reduceSub,reduceCtorEq,zGq, f0, f1, f5, g3] | ((with_reducible refine rows_intro (fun _ hb => ?_)); try simp only [set_none, ne_eq] at hb) | ((with_reducible refine new_intro (fun _ hb => ?_)); try simp only [set_none, ne_eq] at hb) | (with_reducible refine draw_same ?_) | ((with_reducible refine gd_split ?_ (fun _ => ?_) (fun _ => ?_)); exact rfl) | ((with_reducible refine td_split ?_ (fun _ => ?_) (fun _ => ?_)); exact rfl) | (with_reducible refine c_split (fun _ => ?_) (fun _ => ?_)))
    refine hN _ _ _ (.refl _) ⟨_, hc.trans (hc2.mono hib), hM.step hi hlen, R2, (by first | rfl | (simp only [put_at, ↓reduceIte, Nat.reduceEqDiff]; first | done | rfl | assumption) | simp [put_at, *]), (by first | rfl | (simp only [put_at, ↓reduceIte, Nat.reduceEqDiff]; first | done | rfl | assumption) | simp [put_at, *]), (by first | rfl | (simp only [put_at, ↓reduceIte, Nat.reduceEqDiff]; first | done | rfl | assumption) | simp [put_at, *])⟩
  · rintro fr C ⟨M, hc, hM, hR', f0, f1, f5⟩ N
    have g0 : decide ((L.length : Int) < (L.length : Int)) = false := by simp
    rw [List.take_length] at f1
    repeat' (first | simp -implicitDefEqProofs only [zG1,zG2,zG3,zG4,zG5,zG6,zG7,eq_self,resV,rval,X.val,binv,fillL,setR,↓reduceIte,Nat.reduceEqDiff,Nat.reduceAdd,Nat.reduceMul,Nat.reduceLeDiff,Nat.reduceLT,Nat.reduceSub,reduceCtorEq,zGq, f0, f1, f5, g0] | ((with_reducible refine rows_intro (fun _ hb => ?_)); try simp only [set_none, ne_eq] at hb) | ((with_reducible refine new_intro (fun _ hb => ?_)); try simp only [set_none, ne_eq] at hb) | (with_reducible refine draw_same ?_) | ((with_reducible refine gd_split ?_ (fun _ => ?_) (fun _ => ?_)); exact rfl) | ((with_reducible refine td_split ?_ (fun _ => ?_) (fun _ => ?_)); exact rfl) | (with_reducible refine c_split (fun _ => ?_) (fun _ => ?_)))
    exact ret_same (h _ M hc hM.done hR')
end Go.Proofs.Ytfjhjfddgdokgaa
namespace Go.Proofs.Ytfjhjfddgdokgaa
set_option linter.all false
open Go Go.RowKit
set_option maxRecDepth 100000
variable (w0 : World)
abbrev Prs := List (List Int × Int)
def mkTh : Int → Prs → Prs
  | _, [] => []
  | k, t :: ts => (marks k t.1.length, k + t.1.length) :: mkTh (k + t.1.length + 1) ts
def mkBx : Int → Prs → Prs
  | _, [] => []
  | k, t :: ts => (marks (k + 1) t.1.length, k) :: mkBx (k + 1 + t.1.length) ts
theorem sumP_cons (t : List Int × Int) (ts : Prs) : sumP (t :: ts) = t.1.length + sumP ts := by simp [sumP]
theorem mkTh_app : ∀ (a b : Prs) (k : Int), mkTh k (a ++ b) = mkTh k a ++ mkTh (k + sumP a + a.length) b
  | [], b, k => by simp [mkTh, sumP]
  | t :: a, b, k => by
    simp only [List.cons_append, mkTh, mkTh_app a b, sumP_cons, List.length_cons]
    congr 3
    push_cast; omega
theorem mkBx_app : ∀ (a b : Prs) (k : Int), mkBx k (a ++ b) = mkBx k a ++ mkBx (k + sumP a + a.length) b
  | [], b, k => by simp [mkBx, sumP]
  | t :: a, b, k => by
    simp only [List.cons_append, mkBx, mkBx_app a b, sumP_cons, List.length_cons]
    congr 3
    push_cast; omega
theorem mkTh_len : ∀ (a : Prs) (k : Int), (mkTh k a).length = a.length
  | [], _ => rfl
  | t :: a, k => by simp only [mkTh, List.length_cons, mkTh_len a]
theorem mkBx_len : ∀ (a : Prs) (k : Int), (mkBx k a).length = a.length
  | [], _ => rfl
  | t :: a, k => by simp only [mkBx, List.length_cons, mkBx_len a]
theorem mkTh_take {ts : Prs} {i : Nat} (hi : i < ts.length) (k : Int) : mkTh k (ts.take (i + 1)) = mkTh k (ts.take i) ++ [(marks (k + sumP (ts.take i) + i) ts[i].1.length, k + sumP (ts.take i) + i + ts[i].1.length)] := by
  have e : ts.take (i + 1) = ts.take i ++ [ts[i]] := by rw [List.take_add_one, List.getElem?_eq_getElem hi]; rfl
  rw [e, mkTh_app, List.length_take, Nat.min_eq_left (by omega)]
  rfl
theorem mkBx_take {ts : Prs} {i : Nat} (hi : i < ts.length) (k : Int) : mkBx k (ts.take (i + 1)) = mkBx k (ts.take i) ++ [(marks (k + sumP (ts.take i) + i + 1) ts[i].1.length, k + sumP (ts.take i) + i)] := by
  have e : ts.take (i + 1) = ts.take i ++ [ts[i]] := by rw [List.take_add_one, List.getElem?_eq_getElem hi]; rfl
  rw [e, mkBx_app, List.length_take, Nat.min_eq_left (by omega)]
  rfl
theorem mid_at {α : Type} {a : List α} {ts : List α} {i : Nat} (ha : a.length = i) (hi : i < ts.length) : (a ++ ts.drop i)[i]'(by rw [List.length_append, List.length_drop]; omega) = ts[i] := by
  rw [List.getElem_append_right (by omega), List.getElem_drop]
  congr 1; omega
theorem mid_set {α : Type} {a : List α} {ts : List α} {i : Nat} (ha : a.length = i) (hi : i < ts.length) (x : α) : (a ++ ts.drop i).set i x = (a ++ [x]) ++ ts.drop (i + 1) := by
  rw [List.set_append_right _ _ (by omega), ha, Nat.sub_self, List.drop_eq_getElem_cons hi, List.set_cons_zero, List.append_assoc]
  rfl
section
variable (H : AHeap) (K : Value → AHeap → Prop)
theorem markThreadS_op (A : Option Addr) (m c : Nat) (ts : Prs) (bs : List Nat) (k0 : Int) (hR : OP H 125 0 1 (.slice A m c) ts bs) (hn : ts.length ≤ 1048576) (hL : sumP ts ≤ 1048576) (h0 : 0 ≤ k0) (h1 : k0 ≤ 1099511627776)
    (h : ∀ C, Chg H C bs → OP C 125 0 1 (.slice A m c) (mkTh k0 ts) bs → K (.int .i64 (k0 + sumP ts + ts.length)) C) : ACalls Try.prog w0 103 [.slice A m c, .int .i64 k0] H K := by
  have em := hR.fp.2
  subst em
  refine acalls_of_sx mix Try.func103 of103 (by simp [ir103]) ?_; rw [ir103]; (try delta qT qI qC qO qM qG)
  repeat' (first | simp -implicitDefEqProofs only [zG1,zG2,zG3,zG4,zG5,zG6,zG7,eq_self,resV,rval,X.val,binv,fillL,setR,↓reduceIte,Nat.reduceEqDiff,Nat.reduceAdd,Nat.reduceMul,Nat.reduceLeDiff,Nat.reduceLT,Nat.reduceSub,reduceCtorEq,zGq] | ((with_reducible refine rows_intro (fun _ hb => ?_)); try simp only [set_none, ne_eq] at hb) | ((with_reducible refine new_intro (fun _ hb => ?_)); try simp only [set_none, ne_eq] at hb) | (with_reducible refine draw_same ?_) | ((with_reducible refine gd_split ?_ (fun _ => ?_) (fun _ => ?_)); exact rfl) | ((with_reducible refine td_split ?_ (fun _ => ?_) (fun _ => ?_)); exact rfl) | (with_reducible refine c_split (fun _ => ?_) (fun _ => ?_)))
  refine for_rule ts.length (fun i fr C => Chg H C bs ∧ OP C 125 0 1 (.slice A ts.length c) (mkTh k0 (ts.take i) ++ ts.drop i) bs ∧ fr 0 = .slice A ts.length c ∧ fr 1 = .int .i64 (k0 + sumP (ts.take i) + i) ∧ fr 5 = .int .i64 i)
    ⟨Chg.refl _ _, by simpa [mkTh] using hR, (by first | rfl | (simp only [put_at, ↓reduceIte, Nat.reduceEqDiff]; first | done | rfl | assumption) | simp [put_at, *]), (show Value.int .i64 k0 = .int .i64 (k0 + (sumP (ts.take 0) : Int) + ((0 : Nat) : Int)) by simp [sumP]), (by first | rfl | (simp only [put_at, ↓reduceIte, Nat.reduceEqDiff]; first | done | rfl | assumption) | simp [put_at, *])⟩ ?_ ?_
  · rintro i fr C hi ⟨hc, hO, f0, f1, f5⟩ N hN
    have g0 := lt_dec hi
    have g1 := rng hi
    have g3 := up1 hi (by omega)
    have hs1 := sumP_step hi
    have hs2 := sumP_le ts (i + 1)
    have ha : (mkTh k0 (ts.take i)).length = i := by rw [mkTh_len, List.length_take]; omega
    have hil : i < (mkTh k0 (ts.take i) ++ ts.drop i).length := by rw [List.length_append, List.length_drop]; omega
    obtain ⟨gA, x, ib, q, rw_, hib, upd⟩ := hO.inner hil
    simp only [mid_at ha hi] at rw_ upd
    rw [Nat.add_zero] at q
    repeat' (first | simp -implicitDefEqProofs only [zG1,zG2,zG3,zG4,zG5,zG6,zG7,eq_self,resV,rval,X.val,binv,fillL,setR,↓reduceIte,Nat.reduceEqDiff,Nat.reduceAdd,Nat.reduceMul,Nat.reduceLeDiff,Nat.reduceLT,Nat.reduceSub,reduceCtorEq,zGq, f0, f1, f5, g0, g1, gA, q, Nat.add_zero] | ((with_reducible refine rows_intro (fun _ hb => ?_)); try simp only [set_none, ne_eq] at hb) | ((with_reducible refine new_intro (fun _ hb => ?_)); try simp only [set_none, ne_eq] at hb) | (with_reducible refine draw_same ?_) | ((with_reducible refine gd_split ?_ (fun _ => ?_) (fun _ => ?_)); exact rfl) | ((with_reducible refine td_split ?_ (fun _ => ?_) (fun _ => ?_)); exact rfl) | (with_reducible refine c_split (fun _ => ?_) (fun _ => ?_)))
    refine markIntS_rw w0 _ _ rw_ (by omega) _ (by omega) (by omega) (fun C1 hc1 r1 => ?_)
    have O1 := upd C1 _ (marks_len _ _) hc1 r1
    have hil' : i < ((mkTh k0 (ts.take i) ++ ts.drop i).set i (marks (k0 + sumP (ts.take i) + i) ts[i].1.length, ts[i].2)).length := by rw [List.length_set]; exact hil
    have w1 : IntKind.i64.wrap (k0 + sumP (ts.take i) + i + ts[i].1.length + 1) = k0 + (sumP (ts.take (i + 1)) : Int) + ((i + 1 : Nat) : Int) := by
      rw [wrap_i64 (by omega) (by omega)]; omega
    repeat' (first | simp -implicitDefEqProofs only [zG1,zG2,zG3,zG4,zG5,zG6,zG7,eq_self,resV,rval,X.val,binv,fillL,setR,↓reduceIte,Nat.reduceEqDiff,Nat.reduceAdd,Nat.reduceMul,Nat.reduceLeDiff,Nat.reduceLT,Nat.reduceSub,reduceCtorEq,zGq, f0, f1, f5, g1, gA, Nat.add_zero] | ((with_reducible refine rows_intro (fun _ hb => ?_)); try simp only [set_none, ne_eq] at hb) | ((with_reducible refine new_intro (fun _ hb => ?_)); try simp only [set_none, ne_eq] at hb) | (with_reducible refine draw_same ?_) | ((with_reducible refine gd_split ?_ (fun _ => ?_) (fun _ => ?_)); exact rfl) | ((with_reducible refine td_split ?_ (fun _ => ?_) (fun _ => ?_)); exact rfl) | (with_reducible refine c_split (fun _ => ?_) (fun _ => ?_)))
    refine O1.num hil' (.inl ⟨rfl, rfl⟩) (fun C2 hc2 O2 => ?_)
    rw [List.getElem_set_self, List.set_set, mid_set ha hi, ← mkTh_take hi] at O2
    repeat' (first | simp -implicitDefEqProofs only [zG1,zG2,zG3,zG4,zG5,zG6,zG7,eq_self,resV,rval,X.val,binv,fillL,setR,↓reduceIte,Nat.reduceEqDiff,Nat.reduceAdd,Nat.reduceMul,Nat.reduceLeDiff,Nat.reduceLT,Nat.reduceSub,reduceCtorEq,zGq, f0, f1, f5, g3, w1] | ((with_reducible refine rows_intro (fun _ hb => ?_)); try simp only [set_none, ne_eq] at hb) | ((with_reducible refine new_intro (fun _ hb => ?_)); try simp only [set_none, ne_eq] at hb) | (with_reducible refine draw_same ?_) | ((with_reducible refine gd_split ?_ (fun _ => ?_) (fun _ => ?_)); exact rfl) | ((with_reducible refine td_split ?_ (fun _ => ?_) (fun _ => ?_)); exact rfl) | (with_reducible refine c_split (fun _ => ?_) (fun _ => ?_)))
    exact hN _ _ _ (.refl _) ⟨hc.trans ((hc1.mono hib).trans hc2), O2, (by first | rfl | (simp only [put_at, ↓reduceIte, Nat.reduceEqDiff]; first | done | rfl | assumption) | simp [put_at, *]), (by first | rfl | (simp only [put_at, ↓reduceIte, Nat.reduceEqDiff]; first | done | rfl | assumption) | simp [put_at, *]), (by first | rfl | (simp only [put_at, ↓reduceIte, Nat.reduceEqDiff]; first | done | rfl | assumption) | simp [put_at, *])⟩
  · rintro fr C ⟨hc, hO, f0, f1, f5⟩ N
    have g0 : decide ((ts.length : Int) < (ts.length : Int)) = false := by simp
    rw [List.take_length] at f1
    rw [List.take_length, List.drop_length, List.append_nil] at hO
    repeat' (first | simp -implicitDefEqProofs only [zG1,zG2,zG3,zG4,zG5,zG6,zG7,eq_self,resV,rval,X.val,binv,fillL,setR,↓reduceIte,Nat.reduceEqDiff,Nat.reduceAdd,Nat.reduceMul,Nat.reduceLeDiff,Nat.reduceLT,Nat.reduceSub,reduceCtorEq,zGq, f0, f1, f5, g0] | ((with_reducible refine rows_intro (fun _ hb => ?_)); try simp only [set_none, ne_eq] at hb) | ((with_reducible refine new_intro (fun _ hb => ?_)); try simp only [set_none, ne_eq] at hb) | (with_reducible refine draw_same ?_) | ((with_reducible refine gd_split ?_ (fun _ => ?_) (fun _ => ?_)); exact rfl) | ((with_reducible refine td_split ?_ (fun _ => ?_) (fun _ => ?_)); exact rfl) | (with_reducible refine c_split (fun _ => ?_) (fun _ => ?_)))
    exact ret_same (h C hc hO)
theorem markBoxS_op (A : Option Addr) (m c : Nat) (ts : Prs) (bs : List Nat) (k0 : Int) (hR : OP H 179 1 0 (.slice A m c) ts bs) (hn : ts.length ≤ 1048576) (hL : sumP ts ≤ 1048576) (h0 : 0 ≤ k0) (h1 : k0 ≤ 1099511627776)
    (h : ∀ C, Chg H C bs → OP C 179 1 0 (.slice A m c) (mkBx k0 ts) bs → K (.int .i64 (k0 + sumP ts + ts.length)) C) : ACalls Try.prog w0 104 [.slice A m c, .int .i64 k0] H K := by
  have em := hR.fp.2
  subst em
  refine acalls_of_sx mix Try.func104 of104 (by simp [ir104]) ?_; rw [ir104]; (try delta qT qI qC qO qM qG)
  repeat' (first | simp -implicitDefEqProofs only [zG1,zG2,zG3,zG4,zG5,zG6,zG7,eq_self,resV,rval,X.val,binv,fillL,setR,↓reduceIte,Nat.reduceEqDiff,Nat.reduceAdd,Nat.reduceMul,Nat.reduceLeDiff,Nat.reduceLT,Nat.reduceSub,reduceCtorEq,zGq] | ((with_reducible refine rows_intro (fun _ hb => ?_)); try simp only [set_none, ne_eq] at hb) | ((with_reducible refine new_intro (fun _ hb => ?_)); try simp only [set_none, ne_eq] at hb) | (with_reducible refine draw_same ?_) | ((with_reducible refine gd_split ?_ (fun _ => ?_) (fun _ => ?_)); exact rfl) | ((with_reducible refine td_split ?_ (fun _ => ?_) (fun _ => ?_)); exact rfl) | (with_reducible refine c_split (fun _ => ?_) (fun _ => ?_)))
  refine for_rule ts.length (fun i fr C => Chg H C bs ∧ OP C 179 1 0 (.slice A ts.length c) (mkBx k0 (ts.take i) ++ ts.drop i) bs ∧ fr 0 = .slice A ts.length c ∧ fr 1 = .int .i64 (k0 + sumP (ts.take i) + i) ∧ fr 5 = .int .i64 i)
    ⟨Chg.refl _ _, by simpa [mkBx] using hR, (by first | rfl | (simp only [put_at, ↓reduceIte, Nat.reduceEqDiff]; first | done | rfl | assumption) | simp [put_at, *]), (show Value.int .i64 k0 = .int .i64 (k0 + (sumP (ts.take 0) : Int) + ((0 : Nat) : Int)) by simp [sumP]), (by first | rfl | (simp only [put_at, ↓reduceIte, Nat.reduceEqDiff]; first | done | rfl | assumption) | simp [put_at, *])⟩ ?_ ?_
  · rintro i fr C hi ⟨hc, hO, f0, f1, f5⟩ N hN
    have g0 := lt_dec hi
    have g1 := rng hi
    have g3 := up1 hi (by omega)
    have hs1 := sumP_step hi
    have hs2 := sumP_le ts (i + 1)
    have ha : (mkBx k0 (ts.take i)).length = i := by rw [mkBx_len, List.length_take]; omega
    have hil : i < (mkBx k0 (ts.take i) ++ ts.drop i).length := by rw [List.length_append, List.length_drop]; omega
    obtain ⟨gA, -⟩ := hO.inner hil
    have w1 : IntKind.i64.wrap (k0 + sumP (ts.take i) + i + 1) = k0 + sumP (ts.take i) + i + 1 := wrap_i64 (by omega) (by omega)
    repeat' (first | simp -implicitDefEqProofs only [zG1,zG2,zG3,zG4,zG5,zG6,zG7,eq_self,resV,rval,X.val,binv,fillL,setR,↓reduceIte,Nat.reduceEqDiff,Nat.reduceAdd,Nat.reduceMul,Nat.reduceLeDiff,Nat.reduceLT,Nat.reduceSub,reduceCtorEq,zGq, f0, f1, f5, g0, g1, gA, Nat.add_zero] | ((with_reducible refine rows_intro (fun _ hb => ?_)); try simp only [set_none, ne_eq] at hb) | ((with_reducible refine new_intro (fun _ hb => ?_)); try simp only [set_none, ne_eq] at hb) | (with_reducible refine draw_same ?_) | ((with_reducible refine gd_split ?_ (fun _ => ?_) (fun _ => ?_)); exact rfl) | ((with_reducible refine td_split ?_ (fun _ => ?_) (fun _ => ?_)); exact rfl) | (with_reducible refine c_split (fun _ => ?_) (fun _ => ?_)))
    have O1k : ∀ (D : Value → AHeap → Prop), (∀ C2, Chg C C2 bs → OP C2 179 1 0 (.slice A ts.length c) ((mkBx k0 (ts.take i) ++ ts.drop i).set i (ts[i].1, k0 + sumP (ts.take i) + i)) bs → D undef C2) → stK 1 (.pointer (adr A (i * 2))) (.int .i64 (k0 + sumP (ts.take i) + i)) D C := fun D hD =>
      hO.num (u := 0) hil (.inr ⟨rfl, rfl⟩) fun C2 hc2 O2 => hD C2 hc2 (by simpa only [mid_at ha hi] using O2)
    refine O1k _ (fun C2 hc2 O2 => ?_)
    have hil' : i < ((mkBx k0 (ts.take i) ++ ts.drop i).set i (ts[i].1, k0 + sumP (ts.take i) + i)).length := by rw [List.length_set]; exact hil
    obtain ⟨-, x, ib, q, rw_, hib, upd⟩ := O2.inner hil'
    simp only [List.getElem_set_self] at rw_ upd
    repeat' (first | simp -implicitDefEqProofs only [zG1,zG2,zG3,zG4,zG5,zG6,zG7,eq_self,resV,rval,X.val,binv,fillL,setR,↓reduceIte,Nat.reduceEqDiff,Nat.reduceAdd,Nat.reduceMul,Nat.reduceLeDiff,Nat.reduceLT,Nat.reduceSub,reduceCtorEq,zGq, f0, f1, f5, g1, gA, q, w1] | ((with_reducible refine rows_intro (fun _ hb => ?_)); try simp only [set_none, ne_eq] at hb) | ((with_reducible refine new_intro (fun _ hb => ?_)); try simp only [set_none, ne_eq] at hb) | (with_reducible refine draw_same ?_) | ((with_reducible refine gd_split ?_ (fun _ => ?_) (fun _ => ?_)); exact rfl) | ((with_reducible refine td_split ?_ (fun _ => ?_) (fun _ => ?_)); exact rfl) | (with_reducible refine c_split (fun _ => ?_) (fun _ => ?_)))
    refine markIntS_rw w0 _ _ rw_ (by omega) _ (by omega) (by omega) (fun C3 hc3 r3 => ?_)
    have O3 := upd C3 _ (marks_len _ _) hc3 r3
    rw [List.set_set, mid_set ha hi, ← mkBx_take hi] at O3
    have w2 : k0 + (sumP (ts.take i) : Int) + i + 1 + ts[i].1.length = k0 + (sumP (ts.take (i + 1)) : Int) + ((i + 1 : Nat) : Int) := by omega
    repeat' (first | simp -implicitDefEqProofs only [zG1,zG2,zG3,zG4,zG5,zG6,zG7,eq_self,resV,rval,X.val,binv,fillL,setR,↓reduceIte,Nat.reduceEqDiff,Nat.reduceAdd,Nat.reduceMul,Nat.reduceLeDiff,Nat.reduceLT,Nat.reduceSub,reduceCtorEq,zGq, f0, f1, f5, g3, w2] | ((with_reducible refine rows_intro (fun _ hb => ?_)); try simp only [set_none, ne_eq] at hb) | ((with_reducible refine new_intro (fun _ hb => ?_)); try simp only [set_none, ne_eq] at hb) | (with_reducible refine draw_same ?_) | ((with_reducible refine gd_split ?_ (fun _ => ?_) (fun _ => ?_)); exact rfl) | ((with_reducible refine td_split ?_ (fun _ => ?_) (fun _ => ?_)); exact rfl) | (with_reducible refine c_split (fun _ => ?_) (fun _ => ?_)))
    exact hN _ _ _ (.refl _) ⟨hc.trans (hc2.trans (hc3.mono hib)), O3, (by first | rfl | (simp only [put_at, ↓reduceIte, Nat.reduceEqDiff]; first | done | rfl | assumption) | simp [put_at, *]), (by first | rfl | (simp only [put_at, ↓reduceIte, Nat.reduceEqDiff]; first | done | rfl | assumption) | simp [put_at, *]), (by first | rfl | (simp only [put_at, ↓reduceIte, Nat.reduceEqDiff]; first | done | rfl | assumption) | simp [put_at, *])⟩
  · rintro fr C ⟨hc, hO, f0, f1, f5⟩ N
    have g0 : decide ((ts.length : Int) < (ts.length : Int)) = false := by simp
    rw [List.take_length] at f1
    rw [List.take_length, List.drop_length, List.append_nil] at hO
    repeat' (first | simp -implicitDefEqProofs only [zG1,zG2,zG3,zG4,zG5,zG6,zG7,eq_self,resV,rval,X.val,binv,fillL,setR,↓reduceIte,Nat.reduceEqDiff,Nat.reduceAdd,Nat.reduceMul,Nat.reduceLeDiff,Nat.reduceLT,Nat.reduceSub,reduceCtorEq,zGq, f0, f1, f5, g0] | ((with_reducible refine rows_intro (fun _ hb => ?_)); try simp only [set_none, ne_eq] at hb) | ((with_reducible refine new_intro (fun _ hb => ?_)); try simp only [set_none, ne_eq] at hb) | (with_reducible refine draw_same ?_) | ((with_reducible refine gd_split ?_ (fun _ => ?_) (fun _ => ?_)); exact rfl) | ((with_reducible refine td_split ?_ (fun _ => ?_) (fun _ => ?_)); exact rfl) | (with_reducible refine c_split (fun _ => ?_) (fun _ => ?_)))
    exact ret_same (h C hc hO)
end
end Go.Proofs.Ytfjhjfddgdokgaa
namespace Go.Proofs.Ytfjhjfddgdokgaa
set_option linter.all false
open Go Go.RowKit
set_option maxRecDepth 100000
variable (w0 : World)
theorem tot_q (L : List (List Qd)) : tot 5 (L.map qcells) = sumL L := by
  simp only [tot, sumL, List.map_map]
  congr 1
  refine List.map_congr_left fun x _ => ?_
  simp [qcells_len]
def crK1 (c : Cr) (k : Int) : Int := k + 5 * (tot 5 (c.codes.map qcells) : Int)
def crK2 (c : Cr) (k : Int) : Int := crK1 c k + sumP c.threads + c.threads.length
def crK3 (c : Cr) (k : Int) : Int := crK2 c k + sumP c.boxes + c.boxes.length
def crKE (c : Cr) (k : Int) : Int := crK3 c k + c.log.length
/-- A crew, marked from k on. -/
structure MdC (C : AHeap) (c : Cr) (k : Int) (v0 v1 v2 v5 : Value) (b0 b1 b2 b5 : List Nat) : Prop where
  r0 : ∃ M, Marked 5 (fun k n => ints (marks k (n * 5))) k 5 (c.codes.map qcells) M ∧ Rs C 29 111 5 v0 M b0
  r1 : OP C 125 0 1 v1 (mkTh (crK1 c k) c.threads) b1
  r2 : OP C 179 1 0 v2 (mkBx (crK2 c k) c.boxes) b2
  r5 : Rw C 3 1 v5 c.log.length (ints (marks (crK3 c k) c.log.length)) b5
theorem MdC.trans {C C' : AHeap} {c : Cr} {k : Int} {v0 v1 v2 v5 : Value} {b0 b1 b2 b5 : List Nat} (h : MdC C c k v0 v1 v2 v5 b0 b1 b2 b5) (l : AHeap.le C C') : MdC C' c k v0 v1 v2 v5 b0 b1 b2 b5 := by
  obtain ⟨M, h1, h2⟩ := h.r0
  exact ⟨⟨M, h1, h2.trans l⟩, h.r1.trans l, h.r2.trans l, h.r5.trans l⟩
section
variable (H : AHeap) (K : Value → AHeap → Prop)
theorem markCrew_ok (c : Cr) (v0 v1 v2 v5 : Value) (b0 b1 b2 b5 : List Nat) (k : Int) (hO : OwC H c v0 v1 v2 v5 b0 b1 b2 b5) (hb : c.size ≤ 1048576) (h0 : 0 ≤ k) (h1 : k ≤ 1048576)
    (h : ∀ C, Chg H C (b0 ++ (b1 ++ (b2 ++ b5))) → MdC C c k v0 v1 v2 v5 b0 b1 b2 b5 → K (.int .i64 (crKE c k)) C) :
    ACalls Try.prog w0 44 [.agg #[v0, v1, v2, .int .i64 c.turn, .int .i64 c.last, v5], .int .i64 k] H K := by
  have hq := tot_q c.codes
  simp only [Cr.size] at hb
  have e1 : crK1 c k = k + 5 * (tot 5 (c.codes.map qcells) : Int) := rfl
  have e2 : crK2 c k = crK1 c k + sumP c.threads + c.threads.length := rfl
  have e3 : crK3 c k = crK2 c k + sumP c.boxes + c.boxes.length := rfl
  have e4 : crKE c k = crK3 c k + c.log.length := rfl
  obtain ⟨V0, e0, V1, d1, V2, d2, V5, d5, rfl, rfl, rfl, rfl, -⟩ := hO.crR
  refine acalls_of_sx mix Try.func44 of44 (by simp [ir44]) ?_; rw [ir44]; (try delta qT qI qC qO qM qG)
  repeat' (first | simp -implicitDefEqProofs only [zG1,zG2,zG3,zG4,zG5,zG6,zG7,eq_self,resV,rval,X.val,binv,fillL,setR,↓reduceIte,Nat.reduceEqDiff,Nat.reduceAdd,Nat.reduceMul,Nat.reduceLeDiff,Nat.reduceLT,Nat.reduceSub,reduceCtorEq,zGq])
  refine new_intro (fun x2 hx2 => ?_)
  have l1 := (AHeap.le.refl H).fresh hx2 ⟨crc c V0 e0 V1 d1 V2 d2 V5 d5, true, 62, 6⟩
  have k1 := Kn.same H x2 ⟨crc c V0 e0 V1 d1 V2 d2 V5 d5, true, 62, 6⟩
  have nx : ∀ {bs : List Nat}, (∀ y, y ∈ bs → y ∈ b0 ++ (b1 ++ (b2 ++ b5))) → ¬ x2 ∈ bs := fun hs hm => hO.kn x2 (hs _ hm) hx2
  have n0 : ¬ x2 ∈ b0 := nx fun y hy => by simp [hy]
  have n1 : ¬ x2 ∈ b1 := nx fun y hy => by simp [hy]
  have n2 : ¬ x2 ∈ b2 := nx fun y hy => by simp [hy]
  have n5 : ¬ x2 ∈ b5 := nx fun y hy => by simp [hy]
  generalize H.set x2 _ = C at l1 k1 ⊢
  have o := hO.trans l1
  have g := kn6 k1
  repeat' (first | simp -implicitDefEqProofs only [zG1,zG2,zG3,zG4,zG5,zG6,zG7,eq_self,resV,rval,X.val,binv,fillL,setR,↓reduceIte,Nat.reduceEqDiff,Nat.reduceAdd,Nat.reduceMul,Nat.reduceLeDiff,Nat.reduceLT,Nat.reduceSub,reduceCtorEq,zGq, g])
  refine markQuadSS_rs w0 _ _ _ _ _ _ _ k o.r0 (by rw [List.length_map]; omega) h0 (by omega) (fun C1 M h1 hM r0 => ?_)
  rw [← e1]
  replace k1 := k1.chg h1 n0
  have g := kn6 k1
  have r1 := o.r1.chg h1 o.d01
  have r2 := o.r2.chg h1 o.d02
  have r5 := o.r5.chg h1 o.d05
  repeat' (first | simp -implicitDefEqProofs only [zG1,zG2,zG3,zG4,zG5,zG6,zG7,eq_self,resV,rval,X.val,binv,fillL,setR,↓reduceIte,Nat.reduceEqDiff,Nat.reduceAdd,Nat.reduceMul,Nat.reduceLeDiff,Nat.reduceLT,Nat.reduceSub,reduceCtorEq,zGq, g])
  refine markThreadS_op w0 _ _ _ _ _ c.threads _ (crK1 c k) r1 (by omega) (by omega) (by omega) (by omega) (fun C2 h2 r1 => ?_)
  rw [← e2]
  replace k1 := k1.chg h2 n1
  have g := kn6 k1
  replace r0 := r0.chg h2 o.d01.symm
  replace r2 := r2.chg h2 o.d12
  replace r5 := r5.chg h2 o.d15
  repeat' (first | simp -implicitDefEqProofs only [zG1,zG2,zG3,zG4,zG5,zG6,zG7,eq_self,resV,rval,X.val,binv,fillL,setR,↓reduceIte,Nat.reduceEqDiff,Nat.reduceAdd,Nat.reduceMul,Nat.reduceLeDiff,Nat.reduceLT,Nat.reduceSub,reduceCtorEq,zGq, g])
  refine markBoxS_op w0 _ _ _ _ _ c.boxes _ (crK2 c k) r2 (by omega) (by omega) (by omega) (by omega) (fun C3 h3 r2 => ?_)
  rw [← e3]
  replace k1 := k1.chg h3 n2
  have g := kn6 k1
  replace r0 := r0.chg h3 o.d02.symm
  replace r1 := r1.chg h3 o.d12.symm
  replace r5 := r5.chg h3 o.d25
  repeat' (first | simp -implicitDefEqProofs only [zG1,zG2,zG3,zG4,zG5,zG6,zG7,eq_self,resV,rval,X.val,binv,fillL,setR,↓reduceIte,Nat.reduceEqDiff,Nat.reduceAdd,Nat.reduceMul,Nat.reduceLeDiff,Nat.reduceLT,Nat.reduceSub,reduceCtorEq,zGq, g])
  refine markIntS_rw w0 _ _ r5 (by omega) (crK3 c k) (by omega) (by omega) (fun C4 h4 r5 => ?_)
  rw [← e4]
  replace r0 := r0.chg h4 o.d05.symm
  replace r1 := r1.chg h4 o.d15.symm
  replace r2 := r2.chg h4 o.d25.symm
  have hc : Chg C C4 (b0 ++ (b1 ++ (b2 ++ b5))) := (h1.mono fun y hy => by simp [hy]).trans ((h2.mono fun y hy => by simp [hy]).trans ((h3.mono fun y hy => by simp [hy]).trans (h4.mono fun y hy => by simp [hy])))
  repeat' (first | simp -implicitDefEqProofs only [zG1,zG2,zG3,zG4,zG5,zG6,zG7,eq_self,resV,rval,X.val,binv,fillL,setR,↓reduceIte,Nat.reduceEqDiff,Nat.reduceAdd,Nat.reduceMul,Nat.reduceLeDiff,Nat.reduceLT,Nat.reduceSub,reduceCtorEq,zGq])
  exact ret_same (h C4 (fun y k hy hk => ((Kn.of hk).trans l1).chg hc hy) ⟨⟨M, hM, r0⟩, r1, r2, r5⟩)
end
end Go.Proofs.Ytfjhjfddgdokgaa
namespace Go.Proofs.Ytfjhjfddgdokgaa
set_option linter.all false
open Go Go.RowKit Go.Joins Go.ChangeShapes Go.WideShapes Go.ChangeAt Go.Deep
set_option linter.unusedVariables false
set_option maxRecDepth 100000
theorem ocB_of {c : Cr} (hb : CrB 1048576 c) : OcB (crewOutcome c) := by
  unfold crewOutcome
  split
  · rename_i hv
    obtain ⟨h1, h2, h3⟩ := crewOk_len hv
    refine ⟨hb.n5, by rw [List.length_map]; exact h3, fun x hx => ?_, by rw [endL_len h1]; omega⟩
    obtain ⟨t, ht, rfl⟩ := List.mem_map.1 hx
    exact hb.m2 t ht
  · exact ⟨Nat.zero_le _, Nat.zero_le _, fun x hx => (by cases hx), Nat.zero_le _⟩
theorem one_new {C : AHeap} {x : Nat} {bs : List Nat} (h : C x = none) (k : ∀ y, y ∈ bs → C y ≠ none) : Apart bs [x] := (new_apart h k).symm
theorem lawCrewOutcome_ok (w0 : World) (H : AHeap) (K : Value → AHeap → Prop) (c : Cr) (A0 : Option Addr) (c0 : Nat) (A1 : Option Addr) (c1 : Nat) (A2 : Option Addr) (c2 : Nat) (A5 : Option Addr) (c5 : Nat) (hc : CrR H c A0 A1 A2 A5) (hm : CrB maxLen c) (h : ∀ H', K (.bool true) H') :
    ACalls Try.prog w0 8 [crv c A0 c0 A1 c1 A2 c2 A5 c5] H K := by
  have bx : ∀ b : Bool, (b != b) = false := fun b => by cases b <;> rfl
  refine acalls_of_sx mix Try.func8 of8 (by simp [ir8]) ?_; rw [ir8]; (try delta qT qI qC qO qM qG)
  repeat' (first | simp -implicitDefEqProofs only [zG1,zG2,zG3,zG4,zG5,zG6,zG7,eq_self,resV,rval,X.val,binv,fillL,setR,↓reduceIte,Nat.reduceEqDiff,Nat.reduceAdd,Nat.reduceMul,Nat.reduceLeDiff,Nat.reduceLT,Nat.reduceSub,reduceCtorEq,zGp])
  refine new_intro (fun x1 hx1 => ?_)
  have l1 := (AHeap.le.refl H).fresh hx1 ⟨crc c A0 c0 A1 c1 A2 c2 A5 c5, true, 56, 6⟩
  have k1 := Kn.same H x1 ⟨crc c A0 c0 A1 c1 A2 c2 A5 c5, true, 56, 6⟩
  generalize H.set x1 _ = C at l1 k1 ⊢
  have r1 := rd6 k1
  by_cases hbig : (1048576 : Int) < c.size
  · have d1 : decide ((-1 : Int) < 0) = true := by decide
    have hbig' := eq_true hbig
    repeat' (first | simp -implicitDefEqProofs only [zG1,zG2,zG3,zG4,zG5,zG6,zG7,eq_self,resV,rval,X.val,binv,fillL,setR,↓reduceIte,Nat.reduceEqDiff,Nat.reduceAdd,Nat.reduceMul,Nat.reduceLeDiff,Nat.reduceLT,Nat.reduceSub,reduceCtorEq,zGp, r1, hbig', d1, if_true] | ((with_reducible refine rows_intro (fun _ hb => ?_)); try simp only [set_none, ne_eq] at hb) | ((with_reducible refine new_intro (fun _ hb => ?_)); try simp only [set_none, ne_eq] at hb) | (with_reducible refine draw_same ?_) | ((with_reducible refine gd_split ?_ (fun _ => ?_) (fun _ => ?_)); exact rfl) | ((with_reducible refine td_split ?_ (fun _ => ?_) (fun _ => ?_)); exact rfl) | (with_reducible refine c_split (fun _ => ?_) (fun _ => ?_)) | (with_reducible refine szCrew_ok w0 _ _ c A0 c0 A1 c1 A2 c2 A5 c5 (hc.le l1) hm 1048576 (by decide) (by decide) ?_))
    exact ret_same (h _)
  · have d1 : decide ((1048576 : Int) - c.size < 0) = false := by simp; omega
    have hsz : c.size ≤ 1048576 := by omega
    have hb : CrB 1048576 c := CrB.of_size hsz
    have hB := ocB_of hb
    have hbig' := eq_false hbig
    repeat' (first | simp -implicitDefEqProofs only [zG1,zG2,zG3,zG4,zG5,zG6,zG7,eq_self,resV,rval,X.val,binv,fillL,setR,↓reduceIte,Nat.reduceEqDiff,Nat.reduceAdd,Nat.reduceMul,Nat.reduceLeDiff,Nat.reduceLT,Nat.reduceSub,reduceCtorEq,zGp, r1, hbig', d1, if_false] | ((with_reducible refine rows_intro (fun _ hb => ?_)); try simp only [set_none, ne_eq] at hb) | ((with_reducible refine new_intro (fun _ hb => ?_)); try simp only [set_none, ne_eq] at hb) | (with_reducible refine draw_same ?_) | ((with_reducible refine gd_split ?_ (fun _ => ?_) (fun _ => ?_)); exact rfl) | ((with_reducible refine td_split ?_ (fun _ => ?_) (fun _ => ?_)); exact rfl) | (with_reducible refine c_split (fun _ => ?_) (fun _ => ?_)) | (with_reducible refine szCrew_ok w0 _ _ c A0 c0 A1 c1 A2 c2 A5 c5 (hc.le l1) hm 1048576 (by decide) (by decide) ?_))
    refine toCrew_own w0 _ _ c A0 c0 A1 c1 A2 c2 A5 c5 (hc.le l1) hb (fun v0 v1 v2 v5 b0 b1 b2 b5 C2 l2 o2 _ _ _ _ => ?_)
    obtain ⟨B0, e0, B1, e1, B2, e2, B5, e5, rfl, rfl, rfl, rfl, hB2⟩ := o2.crR
    have L2 := l1.trans l2
    repeat' (first | simp -implicitDefEqProofs only [zG1,zG2,zG3,zG4,zG5,zG6,zG7,eq_self,resV,rval,X.val,binv,fillL,setR,↓reduceIte,Nat.reduceEqDiff,Nat.reduceAdd,Nat.reduceMul,Nat.reduceLeDiff,Nat.reduceLT,Nat.reduceSub,reduceCtorEq,zGp] | ((with_reducible refine rows_intro (fun _ hb => ?_)); try simp only [set_none, ne_eq] at hb) | ((with_reducible refine new_intro (fun _ hb => ?_)); try simp only [set_none, ne_eq] at hb) | (with_reducible refine draw_same ?_) | ((with_reducible refine gd_split ?_ (fun _ => ?_) (fun _ => ?_)); exact rfl) | ((with_reducible refine td_split ?_ (fun _ => ?_) (fun _ => ?_)); exact rfl) | (with_reducible refine c_split (fun _ => ?_) (fun _ => ?_)))
    refine crewOutcomeS_ok w0 _ _ c B0 e0 B1 e1 B2 e2 B5 e5 hB2 hb (fun v0 v1 v2 p0 p1 p2 C3 l3 o3 _ _ _ => ?_)
    obtain ⟨P0, i0, P1, i1, P2, i2, rfl, rfl, rfl⟩ := o3.open_
    have L3 := L2.trans l3
    have k13 := k1.trans (l2.trans l3)
    repeat' (first | simp -implicitDefEqProofs only [zG1,zG2,zG3,zG4,zG5,zG6,zG7,eq_self,resV,rval,X.val,binv,fillL,setR,↓reduceIte,Nat.reduceEqDiff,Nat.reduceAdd,Nat.reduceMul,Nat.reduceLeDiff,Nat.reduceLT,Nat.reduceSub,reduceCtorEq,zGp])
    refine new_intro (fun x4 hx4 => ?_)
    have l4' := (AHeap.le.refl C3).fresh hx4 ⟨ocz, true, 78, 4⟩
    have k4' := Kn.same C3 x4 ⟨ocz, true, 78, 4⟩
    generalize C3.set x4 _ = C4 at l4' k4' ⊢
    repeat' (first | simp -implicitDefEqProofs only [zG1,zG2,zG3,zG4,zG5,zG6,zG7,eq_self,resV,rval,X.val,binv,fillL,setR,↓reduceIte,Nat.reduceEqDiff,Nat.reduceAdd,Nat.reduceMul,Nat.reduceLeDiff,Nat.reduceLT,Nat.reduceSub,reduceCtorEq,zGp])
    refine st_own k4' [.slice P0 (crewOutcome c).out.length i0, .slice P1 (crewOutcome c).items.length i1, .slice P2 (crewOutcome c).ended.length i2, .bool (crewOutcome c).rest] rfl rfl (by simp) (by simp [ocS, Value.oneCell']) (fun C5 h5 k4 => ?_)
    simp only [setR, List.set_cons_zero, List.set_cons_succ] at k4
    have l5 : AHeap.le C3 C5 := h5.keep l4' (New.one hx4)
    have L5 := L3.trans l5
    have k15 := k13.trans l5
    have o35 := o3.trans l5
    have r15 := rd6 k15
    repeat' (first | simp -implicitDefEqProofs only [zG1,zG2,zG3,zG4,zG5,zG6,zG7,eq_self,resV,rval,X.val,binv,fillL,setR,↓reduceIte,Nat.reduceEqDiff,Nat.reduceAdd,Nat.reduceMul,Nat.reduceLeDiff,Nat.reduceLT,Nat.reduceSub,reduceCtorEq,zGp, r15] | ((with_reducible refine rows_intro (fun _ hb => ?_)); try simp only [set_none, ne_eq] at hb) | ((with_reducible refine new_intro (fun _ hb => ?_)); try simp only [set_none, ne_eq] at hb) | (with_reducible refine draw_same ?_) | ((with_reducible refine gd_split ?_ (fun _ => ?_) (fun _ => ?_)); exact rfl) | ((with_reducible refine td_split ?_ (fun _ => ?_) (fun _ => ?_)); exact rfl) | (with_reducible refine c_split (fun _ => ?_) (fun _ => ?_)))
    refine toCrew_own w0 _ _ c A0 c0 A1 c1 A2 c2 A5 c5 (hc.le L5) hb (fun v0 v1 v2 v5 q0 q1 q2 q5 C6 l6 o6 m0 m1 m2 m5 => ?_)
    have nq : New C5 (q0 ++ (q1 ++ (q2 ++ q5))) := m0.app (m1.app (m2.app m5))
    obtain ⟨D0, g0, D1, g1, D2, g2, D5, g5, rfl, rfl, rfl, rfl, hD⟩ := o6.crR
    have L6 := L5.trans l6
    repeat' (first | simp -implicitDefEqProofs only [zG1,zG2,zG3,zG4,zG5,zG6,zG7,eq_self,resV,rval,X.val,binv,fillL,setR,↓reduceIte,Nat.reduceEqDiff,Nat.reduceAdd,Nat.reduceMul,Nat.reduceLeDiff,Nat.reduceLT,Nat.reduceSub,reduceCtorEq,zGp])
    refine new_intro (fun x5 hx5 => ?_)
    have l7' := (AHeap.le.refl C6).fresh hx5 ⟨crz, true, 62, 6⟩
    have k5' := Kn.same C6 x5 ⟨crz, true, 62, 6⟩
    generalize C6.set x5 _ = C7 at l7' k5' ⊢
    repeat' (first | simp -implicitDefEqProofs only [zG1,zG2,zG3,zG4,zG5,zG6,zG7,eq_self,resV,rval,X.val,binv,fillL,setR,↓reduceIte,Nat.reduceEqDiff,Nat.reduceAdd,Nat.reduceMul,Nat.reduceLeDiff,Nat.reduceLT,Nat.reduceSub,reduceCtorEq,zGp])
    refine st_own k5' (crc c D0 g0 D1 g1 D2 g2 D5 g5) rfl rfl (by simp) (by simp [ocI, ocS]) (fun C8 h8 k5 => ?_)
    simp only [setR, List.set_cons_zero, List.set_cons_succ] at k5
    have l8 : AHeap.le C6 C8 := h8.keep l7' (New.one hx5)
    have L8 := L6.trans l8
    have r58 := rd6 k5
    have nx5 : ¬ x5 ∈ q0 ++ (q1 ++ (q2 ++ q5)) := fun hm => o6.kn x5 hm hx5
    have o68 := o6.trans l8
    repeat' (first | simp -implicitDefEqProofs only [zG1,zG2,zG3,zG4,zG5,zG6,zG7,eq_self,resV,rval,X.val,binv,fillL,setR,↓reduceIte,Nat.reduceEqDiff,Nat.reduceAdd,Nat.reduceMul,Nat.reduceLeDiff,Nat.reduceLT,Nat.reduceSub,reduceCtorEq,zGp, r58] | ((with_reducible refine rows_intro (fun _ hb => ?_)); try simp only [set_none, ne_eq] at hb) | ((with_reducible refine new_intro (fun _ hb => ?_)); try simp only [set_none, ne_eq] at hb) | (with_reducible refine draw_same ?_) | ((with_reducible refine gd_split ?_ (fun _ => ?_) (fun _ => ?_)); exact rfl) | ((with_reducible refine td_split ?_ (fun _ => ?_) (fun _ => ?_)); exact rfl) | (with_reducible refine c_split (fun _ => ?_) (fun _ => ?_)))
    refine crewOutcome_ok w0 _ _ c D0 g0 D1 g1 D2 g2 D5 g5 (hD.le l8) hb (fun v0 v1 v2 s0 s1 s2 C9 l9 o9 t0 t1 t2 => ?_)
    have nsO : New C8 (s0 ++ (s1 ++ s2)) := t0.app (t1.app t2)
    obtain ⟨S0, j0, S1, j1, S2, j2, rfl, rfl, rfl⟩ := o9.open_
    have L9 := L8.trans l9
    repeat' (first | simp -implicitDefEqProofs only [zG1,zG2,zG3,zG4,zG5,zG6,zG7,eq_self,resV,rval,X.val,binv,fillL,setR,↓reduceIte,Nat.reduceEqDiff,Nat.reduceAdd,Nat.reduceMul,Nat.reduceLeDiff,Nat.reduceLT,Nat.reduceSub,reduceCtorEq,zGp])
    refine new_intro (fun x6 hx6 => ?_)
    have l10' := (AHeap.le.refl C9).fresh hx6 ⟨ocz, true, 78, 4⟩
    have k6' := Kn.same C9 x6 ⟨ocz, true, 78, 4⟩
    generalize C9.set x6 _ = C10 at l10' k6' ⊢
    repeat' (first | simp -implicitDefEqProofs only [zG1,zG2,zG3,zG4,zG5,zG6,zG7,eq_self,resV,rval,X.val,binv,fillL,setR,↓reduceIte,Nat.reduceEqDiff,Nat.reduceAdd,Nat.reduceMul,Nat.reduceLeDiff,Nat.reduceLT,Nat.reduceSub,reduceCtorEq,zGp])
    refine st_own k6' [.slice S0 (crewOutcome c).out.length j0, .slice S1 (crewOutcome c).items.length j1, .slice S2 (crewOutcome c).ended.length j2, .bool (crewOutcome c).rest] rfl rfl (by simp) (by simp [ocS, Value.oneCell']) (fun C11 h11 k6 => ?_)
    simp only [setR, List.set_cons_zero, List.set_cons_succ] at k6
    have l11 : AHeap.le C9 C11 := h11.keep l10' (New.one hx6)
    have L11 := L9.trans l11
    have kx4 : Kn C8 x4 _ := k4.trans (l6.trans l8)
    have nx6q : ¬ x6 ∈ q0 ++ (q1 ++ (q2 ++ q5)) := fun hm => le_kept (l8.trans l9) (o6.kn x6 hm) hx6
    have nx6s : ¬ x6 ∈ s0 ++ (s1 ++ s2) := fun hm => o9.kn x6 hm hx6
    have nx4q : ¬ x4 ∈ q0 ++ (q1 ++ (q2 ++ q5)) := fun hm => k4.ne (nq _ hm)
    have nx4s : ¬ x4 ∈ s0 ++ (s1 ++ s2) := fun hm => kx4.ne (nsO _ hm)
    have nx1q : ¬ x1 ∈ q0 ++ (q1 ++ (q2 ++ q5)) := fun hm => k15.ne (nq _ hm)
    have nx1s : ¬ x1 ∈ s0 ++ (s1 ++ s2) := fun hm => (k15.trans (l6.trans l8)).ne (nsO _ hm)
    have k411 := kx4.trans (l9.trans l11)
    have k111 := k15.trans (l6.trans (l8.trans (l9.trans l11)))
    have k511 := k5.trans (l9.trans l11)
    have o311 := o35.trans (l6.trans (l8.trans (l9.trans l11)))
    have o911 := o9.trans l11
    have o611 := o68.trans (l9.trans l11)
    have r411 := rd4 k411
    have r611 := rd4 k6
    have r511 := rd6 k511
    have r111 := rd6 k111
    repeat' (first | simp -implicitDefEqProofs only [zG1,zG2,zG3,zG4,zG5,zG6,zG7,eq_self,resV,rval,X.val,binv,fillL,setR,↓reduceIte,Nat.reduceEqDiff,Nat.reduceAdd,Nat.reduceMul,Nat.reduceLeDiff,Nat.reduceLT,Nat.reduceSub,reduceCtorEq,zGp, r411, r611, r511, r111, Bool.not_true] | ((with_reducible refine rows_intro (fun _ hb => ?_)); try simp only [set_none, ne_eq] at hb) | ((with_reducible refine new_intro (fun _ hb => ?_)); try simp only [set_none, ne_eq] at hb) | (with_reducible refine draw_same ?_) | ((with_reducible refine gd_split ?_ (fun _ => ?_) (fun _ => ?_)); exact rfl) | ((with_reducible refine td_split ?_ (fun _ => ?_) (fun _ => ?_)); exact rfl) | (with_reducible refine c_split (fun _ => ?_) (fun _ => ?_)) | (with_reducible refine eqOutcome_ok w0 _ _ (crewOutcome c) hB _ _ _ _ _ _ _ _ _ _ _ _ o911 o311 ?_))
    refine toCrew_own w0 _ _ c A0 c0 A1 c1 A2 c2 A5 c5 (hc.le L11) hb (fun v0 v1 v2 v5 _ _ _ _ C12 l12 o12 _ _ _ _ => ?_)
    obtain ⟨E0, a0, E1, a1, E2, a2, E5, a5, rfl, rfl, rfl, rfl, hE⟩ := o12.crR
    have L12 := L11.trans l12
    have k412 := k411.trans l12
    have k612 := k6.trans l12
    have k112 := k111.trans l12
    have k512 := k511.trans l12
    have o312 := o311.trans l12
    have o912 := o911.trans l12
    have o612 := o611.trans l12
    have r512 := rd6 k512
    repeat' (first | simp -implicitDefEqProofs only [zG1,zG2,zG3,zG4,zG5,zG6,zG7,eq_self,resV,rval,X.val,binv,fillL,setR,↓reduceIte,Nat.reduceEqDiff,Nat.reduceAdd,Nat.reduceMul,Nat.reduceLeDiff,Nat.reduceLT,Nat.reduceSub,reduceCtorEq,zGp, l12, r512, true_and, Bool.not_true] | ((with_reducible refine rows_intro (fun _ hb => ?_)); try simp only [set_none, ne_eq] at hb) | ((with_reducible refine new_intro (fun _ hb => ?_)); try simp only [set_none, ne_eq] at hb) | (with_reducible refine draw_same ?_) | ((with_reducible refine gd_split ?_ (fun _ => ?_) (fun _ => ?_)); exact rfl) | ((with_reducible refine td_split ?_ (fun _ => ?_) (fun _ => ?_)); exact rfl) | (with_reducible refine c_split (fun _ => ?_) (fun _ => ?_)) | (with_reducible refine eqCrew_ok w0 _ _ c D0 g0 D1 g1 D2 g2 D5 g5 E0 a0 E1 a1 E2 a2 E5 a5 (hD.le (l8.trans (l9.trans (l11.trans l12)))) hE hb ?_))
    refine markCrew_ok w0 _ _ c _ _ _ _ q0 q1 q2 q5 1 o612 hsz (by decide) (by decide) (fun C13 h13 _ => ?_)
    have L13 := h13.keep L12 (nq.le L5)
    have k413 := k412.chg h13 nx4q
    have k613 := k612.chg h13 nx6q
    have k113 := k112.chg h13 nx1q
    have o313 := o312.chg h13 fun y hy hm => o35.kn y hy (nq y hm)
    have o913 := o912.chg h13 fun y hy hm => le_kept l8 (o6.kn y hm) (nsO y hy)
    have r413 := rd4 k413
    have r613 := rd4 k613
    have hke : (0 : Int) ≤ crKE c 1 := by simp only [crKE, crK3, crK2, crK1]; omega
    have d5 : decide (crKE c 1 < 0) = false := by simp; omega
    repeat' (first | simp -implicitDefEqProofs only [zG1,zG2,zG3,zG4,zG5,zG6,zG7,eq_self,resV,rval,X.val,binv,fillL,setR,↓reduceIte,Nat.reduceEqDiff,Nat.reduceAdd,Nat.reduceMul,Nat.reduceLeDiff,Nat.reduceLT,Nat.reduceSub,reduceCtorEq,zGp, r413, r613, d5, Bool.not_true] | ((with_reducible refine rows_intro (fun _ hb => ?_)); try simp only [set_none, ne_eq] at hb) | ((with_reducible refine new_intro (fun _ hb => ?_)); try simp only [set_none, ne_eq] at hb) | (with_reducible refine draw_same ?_) | ((with_reducible refine gd_split ?_ (fun _ => ?_) (fun _ => ?_)); exact rfl) | ((with_reducible refine td_split ?_ (fun _ => ?_) (fun _ => ?_)); exact rfl) | (with_reducible refine c_split (fun _ => ?_) (fun _ => ?_)) | (with_reducible refine eqOutcome_ok w0 _ _ (crewOutcome c) hB _ _ _ _ _ _ _ _ _ _ _ _ o913 o313 ?_))
    refine markOutcome_ok w0 _ _ (crewOutcome c) hB _ _ _ s0 s1 s2 1 o913 (by decide) (by decide) (fun C14 h14 w14 => ?_)
    have L14 := h14.keep L13 (nsO.le L8)
    have k414 := k413.chg h14 nx4s
    have k614 := k613.chg h14 nx6s
    have k114 := k113.chg h14 nx1s
    have o314 := o313.chg h14 fun y hy hm => le_kept (l6.trans l8) (o35.kn y hy) (nsO y hm)
    have hke2 : (0 : Int) ≤ ocKE (crewOutcome c) 1 := by simp only [ocKE, ocK2, ocK1]; omega
    have d6 : decide (ocKE (crewOutcome c) 1 < 0) = false := by simp; omega
    have r614 := rd4 k614
    have r114 := rd6 k114
    repeat' (first | simp -implicitDefEqProofs only [zG1,zG2,zG3,zG4,zG5,zG6,zG7,eq_self,resV,rval,X.val,binv,fillL,setR,↓reduceIte,Nat.reduceEqDiff,Nat.reduceAdd,Nat.reduceMul,Nat.reduceLeDiff,Nat.reduceLT,Nat.reduceSub,reduceCtorEq,zGp, r614, r114, d6, bne_self_eq_false] | ((with_reducible refine rows_intro (fun _ hb => ?_)); try simp only [set_none, ne_eq] at hb) | ((with_reducible refine new_intro (fun _ hb => ?_)); try simp only [set_none, ne_eq] at hb) | (with_reducible refine draw_same ?_) | ((with_reducible refine gd_split ?_ (fun _ => ?_) (fun _ => ?_)); exact rfl) | ((with_reducible refine td_split ?_ (fun _ => ?_) (fun _ => ?_)); exact rfl) | (with_reducible refine c_split (fun _ => ?_) (fun _ => ?_)) | (with_reducible refine heldOutcome_ok w0 _ _ (crewOutcome c) hB _ _ _ _ _ _ 1 w14 (by decide) (by decide) ?_))
    refine toCrew_own w0 _ _ c A0 c0 A1 c1 A2 c2 A5 c5 (hc.le L14) hb (fun v0 v1 v2 v5 _ _ _ _ C15 l15 o15 _ _ _ _ => ?_)
    obtain ⟨F0, f0, F1, f1, F2, f2, F5, f5, rfl, rfl, rfl, rfl, hF⟩ := o15.crR
    repeat' (first | simp -implicitDefEqProofs only [zG1,zG2,zG3,zG4,zG5,zG6,zG7,eq_self,resV,rval,X.val,binv,fillL,setR,↓reduceIte,Nat.reduceEqDiff,Nat.reduceAdd,Nat.reduceMul,Nat.reduceLeDiff,Nat.reduceLT,Nat.reduceSub,reduceCtorEq,zGp] | ((with_reducible refine rows_intro (fun _ hb => ?_)); try simp only [set_none, ne_eq] at hb) | ((with_reducible refine new_intro (fun _ hb => ?_)); try simp only [set_none, ne_eq] at hb) | (with_reducible refine draw_same ?_) | ((with_reducible refine gd_split ?_ (fun _ => ?_) (fun _ => ?_)); exact rfl) | ((with_reducible refine td_split ?_ (fun _ => ?_) (fun _ => ?_)); exact rfl) | (with_reducible refine c_split (fun _ => ?_) (fun _ => ?_)))
    refine crewOutcome_ok w0 _ _ c F0 f0 F1 f1 F2 f2 F5 f5 hF hb (fun v0 v1 v2 _ _ _ C16 l16 o16 _ _ _ => ?_)
    obtain ⟨G0, y0, G1, y1, G2, y2, rfl, rfl, rfl⟩ := o16.open_
    repeat' (first | simp -implicitDefEqProofs only [zG1,zG2,zG3,zG4,zG5,zG6,zG7,eq_self,resV,rval,X.val,binv,fillL,setR,↓reduceIte,Nat.reduceEqDiff,Nat.reduceAdd,Nat.reduceMul,Nat.reduceLeDiff,Nat.reduceLT,Nat.reduceSub,reduceCtorEq,zGp])
    refine new_intro (fun x10 hx10 => ?_)
    have l17' := (AHeap.le.refl C16).fresh hx10 ⟨ocz, true, 78, 4⟩
    have k10' := Kn.same C16 x10 ⟨ocz, true, 78, 4⟩
    generalize C16.set x10 _ = C17 at l17' k10' ⊢
    repeat' (first | simp -implicitDefEqProofs only [zG1,zG2,zG3,zG4,zG5,zG6,zG7,eq_self,resV,rval,X.val,binv,fillL,setR,↓reduceIte,Nat.reduceEqDiff,Nat.reduceAdd,Nat.reduceMul,Nat.reduceLeDiff,Nat.reduceLT,Nat.reduceSub,reduceCtorEq,zGp])
    refine st_own k10' [.slice G0 (crewOutcome c).out.length y0, .slice G1 (crewOutcome c).items.length y1, .slice G2 (crewOutcome c).ended.length y2, .bool (crewOutcome c).rest] rfl rfl (by simp) (by simp [ocS, Value.oneCell']) (fun C18 h18 k10 => ?_)
    simp only [setR, List.set_cons_zero, List.set_cons_succ] at k10
    have l18 : AHeap.le C16 C18 := h18.keep l17' (New.one hx10)
    have lz := l15.trans (l16.trans l18)
    have k418 := k414.trans lz
    have k618 := k614.trans lz
    have o318 := o314.trans lz
    have o1618 := o16.trans l18
    have w18 := w14.trans lz
    have r418 := rd4 k418
    have r618 := rd4 k618
    have r1018 := rd4 k10
    repeat' (first | simp -implicitDefEqProofs only [zG1,zG2,zG3,zG4,zG5,zG6,zG7,eq_self,resV,rval,X.val,binv,fillL,setR,↓reduceIte,Nat.reduceEqDiff,Nat.reduceAdd,Nat.reduceMul,Nat.reduceLeDiff,Nat.reduceLT,Nat.reduceSub,reduceCtorEq,zGp, r418, r618, r1018, d6, Bool.not_true, bne_self_eq_false] | ((with_reducible refine rows_intro (fun _ hb => ?_)); try simp only [set_none, ne_eq] at hb) | ((with_reducible refine new_intro (fun _ hb => ?_)); try simp only [set_none, ne_eq] at hb) | (with_reducible refine draw_same ?_) | ((with_reducible refine gd_split ?_ (fun _ => ?_) (fun _ => ?_)); exact rfl) | ((with_reducible refine td_split ?_ (fun _ => ?_) (fun _ => ?_)); exact rfl) | (with_reducible refine c_split (fun _ => ?_) (fun _ => ?_)) | (with_reducible refine eqOutcome_ok w0 _ _ (crewOutcome c) hB _ _ _ _ _ _ _ _ _ _ _ _ o1618 o318 ?_) | (with_reducible refine heldOutcome_ok w0 _ _ (crewOutcome c) hB _ _ _ _ _ _ 1 w18 (by decide) (by decide) ?_))
    exact ret_same (h _)
namespace fnExactCrewOutcome
theorem lifted (os : Os) (started : os.Started) (H : Type) (enc : TypeId × Value → H) :
    ReturnsInHanded {} Try.checked os 8 .any (Rows.fnExactCrewOutcomeSpec.pre6 enc Try.prog Try.f8 Rows.fnExactCrewOutcomeRow.domain false) (Rows.fnExactCrewOutcomeSpec.post enc Try.prog Try.f8 false true false false) := by
  refine returnsInHanded_of_change_sized (C := Try.checked) own started (by kernel_rfl) Try.func8
    (ChangeSpec.witness6 (enc := enc) (C := Try.checked) false ⟨#[], #[.agg #[.slice none 0 0, .slice none 0 0, .slice none 0 0, .int .i64 0, .int .i64 0, .slice none 0 0]], []⟩ 8 (by kernel_rfl) (by kernel_rfl) (by kernel_rfl) (by kernel_rfl)) ?_
  intro W base args ds gs before hval0 hW hcnd hsz0 _
  have hval : ∀ (j : Nat) t v, Try.f8.params[j]? = some t → args[j]? = some v → Value.okWide Try.prog W .any base t v := hval0
  have hW' := hW
  obtain ⟨p, q, hA0, hV, rfl, hfz, hnd⟩ := hW
  have hA : DataW.TrodAll enc Try.prog W 0 (fun _ => true) true Try.f8.params.toList args.toList ds p := hA0
  rw [Try.params8] at hA hval
  obtain ⟨v0, vs0, d0, ds0, p0, q0, hargs, rfl, rfl, h0, r0⟩ := trodAll_cons hA
  obtain ⟨rfl, rfl, rfl⟩ := trodAll_nil r0
  obtain rfl : args = #[v0] := by cases args; simp_all
  obtain ⟨rfl, rfl⟩ := trodVars_none hV
  have k0 := h0
  have lt0 : ∀ x ∈ p0, x.block < W.heap.size := by obtain ⟨m, hm⟩ := k0; exact DataW.trod_lt m _ _ _ hm
  obtain ⟨cs0, rfl, _⟩ := okWide_struct Try.underlying56 (hval 0 56 v0 rfl rfl)
  obtain ⟨cr0, a0, ca0, b0, cb0, g0, cg0, j0, cj0, hcs0, f0, hm0⟩ : ∃ (c : Cr) (A0 : Option Addr) (c0 : Nat) (A1 : Option Addr) (c1 : Nat) (A2 : Option Addr) (c2 : Nat) (A5 : Option Addr) (c5 : Nat), cs0.toList = crc c A0 c0 A1 c1 A2 c2 A5 c5 ∧ CrR (heapOf W) c A0 A1 A2 A5 ∧ CrB maxLen c := by
    obtain ⟨fuel, hf⟩ := h0
    exact open_crew Try.underlying56 ⟨rfl, rfl, rfl, rfl, rfl, rfl⟩ (by kernel_rfl) ⟨by kernel_rfl, by kernel_rfl, by kernel_rfl, by kernel_rfl, by kernel_rfl, by kernel_rfl⟩
      (open_rows Try.underlying52 (by kernel_rfl) (open_qrow Try.underlying82 Try.underlying149 (by kernel_rfl) (by kernel_rfl) Try.underlying3 ⟨rfl, rfl, rfl, rfl, rfl⟩))
      (open_pairs (.inl ⟨rfl, rfl⟩) Try.underlying53 (by kernel_rfl) (open_pair Try.underlying174 Try.underlying35 Try.underlying3 (by rw [if_pos rfl]; exact ⟨rfl, rfl⟩) ⟨rfl, rfl⟩ (by kernel_rfl) (by kernel_rfl) (by kernel_rfl)))
      (open_pairs (.inr ⟨rfl, rfl⟩) Try.underlying54 (by kernel_rfl) (open_pair Try.underlying177 Try.underlying35 Try.underlying3 (by rw [if_neg (by decide)]; exact ⟨rfl, rfl⟩) ⟨rfl, rfl⟩ (by kernel_rfl) (by kernel_rfl) (by kernel_rfl)))
      (open_int Try.underlying3) (open_int Try.underlying3) (open_irow Try.underlying35 Try.underlying3 (by kernel_rfl)) hf
  obtain ⟨cs0⟩ := cs0
  simp only at hcs0
  subst hcs0
  refine (calls_true (lawCrewOutcome_ok W (heapOf W) _ cr0 a0 ca0 b0 cb0 g0 cg0 j0 cj0 f0 hm0 (fun _ => rfl)) (sat_heap W)).mono fun e W' ⟨he, bel⟩ => ?_
  subst he
  exact ⟨_, rfl, _, _, _, [], _, [], hW', trodAll_mk1 (shut_bool Try.underlying4 _), (trodAll_cons_mk (Below.trod laidOut (by kernel_rfl) (of_decide_eq_true (by kernel_rfl)) k0 bel lt0) trodAll_mk0), rfl, bel.frame _, fun h => by cases h⟩
theorem over : Rows.fnExactCrewOutcomeRow.holds Try.pinned (OpenSpec.ofChange Rows.fnExactCrewOutcomeSpec) :=
  OpenClaim.holds_of_wide 8 Try.f8 rfl rfl rfl rfl rfl rfl rfl ⟨rfl, rfl, rfl, rfl, rfl⟩ rfl rfl rfl rfl rfl (by kernel_rfl) Try.func8 (by kernel_rfl)
    (of_decide_eq_true (by kernel_rfl)) (by unfold Func.isWrapper; first | (rw [if_pos (by decide +kernel)]; kernel_rfl) | (rw [if_neg (by decide +kernel)]; exact ⟨rfl, rfl⟩))
    (fun os started H enc _ => lifted os started H enc)
end fnExactCrewOutcome
theorem fnExactCrewOutcome_holds : Rows.FnExactCrewOutcomeSaid := fnExactCrewOutcome.over
#print axioms fnExactCrewOutcome_holds
end Go.Proofs.Ytfjhjfddgdokgaa
