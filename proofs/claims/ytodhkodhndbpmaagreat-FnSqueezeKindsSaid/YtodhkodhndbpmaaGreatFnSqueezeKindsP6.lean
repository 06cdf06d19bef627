/- The statement FnSqueezeKinds holds for all arguments; part 6 of the texts that show it. No further condition. -/
import Derived.Test.YtodhkodhndbpmaaGreatFnSqueezeKindsP5
import Derived.Test.YtodhkodhndbpmaaGreatRows
import Derived.WalkKit
import Derived.ProofKit
import Derived.OpenShut
import Derived.ShutString
import Derived.ChangeOld
import Derived.Below
import Derived.SizedLaws
import Derived.Lib.SmallJoins
import Derived.Deep.Slices
import Derived.Deep.Fields
import Derived.ChangeSame
namespace Go.Proofs.YtodhkodhndbpmaaGreat
set_option linter.all false
open Go Go.RowKit
set_option maxRecDepth 100000
variable (w0 : World) (H : AHeap) (K : Value → AHeap → Prop)
theorem bools_oc (s : List Bool) : ∀ v ∈ bools s, v.oneCell' = true := by
  intro v hv
  obtain ⟨b, _, rfl⟩ := List.mem_map.1 hv
  rfl
theorem l32After_ok (A : Option Addr) (c : Nat) (qs : List Qd) (hv : codeValid qs = true) (hx : Fl H A (qcells qs)) (B : Option Addr) (cb : Nat) (l : List Nat) (hl : l.length = qs.length) (bs : List Nat) (hB : Rs H 39 4 1 (.slice B qs.length cb) (rowsM l) bs) (i : Nat) (hi : i < qs.length)
    (h : ∀ v C ib, AHeap.le H C → New H ib → Rw C 4 1 v 12 (bools (flagsM (behindM qs l i))) ib → K v C) : ACalls Tryz.prog w0 91 [.slice A qs.length c, .slice B qs.length cb, .int .i64 i] H K := by
  have hc := code_at hv
  refine acalls_of_sx mix Tryz.func91 of91 (by simp [ir91]) ?_; rw [ir91]; (try delta qT qI qC qO qM qG)
  repeat' (first | simp -implicitDefEqProofs only [zG1,zG2,zG3,zG4,zG5,zG6,zG7,eq_self,resV,rval,X.val,binv,fillL,setR,↓reduceIte,Nat.reduceEqDiff,Nat.reduceAdd,Nat.reduceMul,Nat.reduceLeDiff,Nat.reduceLT,Nat.reduceSub,reduceCtorEq,zGq] | ((with_reducible refine rows_intro (fun _ hb => ?_)); try simp only [set_none, ne_eq] at hb) | ((with_reducible refine new_intro (fun _ hb => ?_)); try simp only [set_none, ne_eq] at hb) | (with_reducible refine draw_same ?_) | ((with_reducible refine gd_split ?_ (fun _ => ?_) (fun _ => ?_)); exact rfl) | ((with_reducible refine td_split ?_ (fun _ => ?_) (fun _ => ?_)); exact rfl) | (with_reducible refine c_split (fun _ => ?_) (fun _ => ?_)) | (with_reducible refine mkB12 (fun b hb => ?_)))
  refine l31Next_ok _ _ _ A c qs i (hx.fresh hb _) hi (by omega) (rw_of fun v2 C2 bs2 l2 n2 w2 => ?_)
  obtain ⟨A2, e2, rfl, -⟩ := w2.fl
  have hesl := nextL_le qs[i] i
  have l2' := ((AHeap.le.refl H).fresh hb ⟨bools (flagsM 0), true, 4, 12 * 1⟩).trans l2
  have hb2 : ¬ b ∈ bs2 := fun hm => by have := n2 b hm; rw [set_same] at this; cases this
  repeat' (first | simp -implicitDefEqProofs only [zG1,zG2,zG3,zG4,zG5,zG6,zG7,eq_self,resV,rval,X.val,binv,fillL,setR,↓reduceIte,Nat.reduceEqDiff,Nat.reduceAdd,Nat.reduceMul,Nat.reduceLeDiff,Nat.reduceLT,Nat.reduceSub,reduceCtorEq,zGq] | ((with_reducible refine rows_intro (fun _ hb => ?_)); try simp only [set_none, ne_eq] at hb) | ((with_reducible refine new_intro (fun _ hb => ?_)); try simp only [set_none, ne_eq] at hb) | (with_reducible refine draw_same ?_) | ((with_reducible refine gd_split ?_ (fun _ => ?_) (fun _ => ?_)); exact rfl) | ((with_reducible refine td_split ?_ (fun _ => ?_) (fun _ => ?_)); exact rfl) | (with_reducible refine c_split (fun _ => ?_) (fun _ => ?_)))
  refine for_rule (nextL qs[i] i).length (fun k fr C => AHeap.le H C ∧ Kn C b ⟨bools (flagsM (orOf l ((nextL qs[i] i).take k))), true, 4, 12 * 1⟩ ∧ Rw C 3 1 (.slice A2 (nextL qs[i] i).length e2) (nextL qs[i] i).length (ints (nextL qs[i] i)) bs2 ∧
    fr 1 = .slice B qs.length cb ∧ fr 7 = .slice (some ⟨b, 0, none⟩) 12 12 ∧ fr 8 = .slice A2 (nextL qs[i] i).length e2 ∧ fr 9 = .int .i64 k)
    ⟨l2', by rw [List.take_zero]; exact (Kn.same _ _ _).trans l2, w2, (by first | rfl | (simp only [put_at, ↓reduceIte, Nat.reduceEqDiff]; first | done | rfl | assumption) | simp [put_at, *]), (by first | rfl | (simp only [put_at, ↓reduceIte, Nat.reduceEqDiff]; first | done | rfl | assumption) | simp [put_at, *]), (by first | rfl | (simp only [put_at, ↓reduceIte, Nat.reduceEqDiff]; first | done | rfl | assumption) | simp [put_at, *]), (by first | rfl | (simp only [put_at, ↓reduceIte, Nat.reduceEqDiff]; first | done | rfl | assumption) | simp [put_at, *])⟩ ?_ ?_
  · rintro k fr C hk ⟨hle, kn, wn, f1, f7, f8, f9⟩ N hN
    have g0 := lt_dec hk
    have g2 := up1 hk (by omega)
    have hst := orOf_take (l := l) hk
    repeat' (first | simp -implicitDefEqProofs only [zG1,zG2,zG3,zG4,zG5,zG6,zG7,eq_self,resV,rval,X.val,binv,fillL,setR,↓reduceIte,Nat.reduceEqDiff,Nat.reduceAdd,Nat.reduceMul,Nat.reduceLeDiff,Nat.reduceLT,Nat.reduceSub,reduceCtorEq,zGq, f1, f7, f8, f9, g0] | ((with_reducible refine rows_intro (fun _ hb => ?_)); try simp only [set_none, ne_eq] at hb) | ((with_reducible refine new_intro (fun _ hb => ?_)); try simp only [set_none, ne_eq] at hb) | (with_reducible refine draw_same ?_) | ((with_reducible refine gd_split ?_ (fun _ => ?_) (fun _ => ?_)); exact rfl) | ((with_reducible refine td_split ?_ (fun _ => ?_) (fun _ => ?_)); exact rfl) | (with_reducible refine c_split (fun _ => ?_) (fun _ => ?_)))
    refine for_rule 12 (fun r fr C => AHeap.le H C ∧ Kn C b ⟨bools (flagsTo (orOf l ((nextL qs[i] i).take k)) (lvAt l ((nextL qs[i] i)[k]).toNat) r), true, 4, 12 * 1⟩ ∧ Rw C 3 1 (.slice A2 (nextL qs[i] i).length e2) (nextL qs[i] i).length (ints (nextL qs[i] i)) bs2 ∧
      fr 1 = .slice B qs.length cb ∧ fr 7 = .slice (some ⟨b, 0, none⟩) 12 12 ∧ fr 8 = .slice A2 (nextL qs[i] i).length e2 ∧ fr 9 = .int .i64 k ∧ fr 10 = .int .i64 r)
      ⟨hle, by rw [flagsTo_zero]; exact kn, wn, (by first | rfl | (simp only [put_at, ↓reduceIte, Nat.reduceEqDiff]; first | done | rfl | assumption) | simp [put_at, *]), (by first | rfl | (simp only [put_at, ↓reduceIte, Nat.reduceEqDiff]; first | done | rfl | assumption) | simp [put_at, *]), (by first | rfl | (simp only [put_at, ↓reduceIte, Nat.reduceEqDiff]; first | done | rfl | assumption) | simp [put_at, *]), (by first | rfl | (simp only [put_at, ↓reduceIte, Nat.reduceEqDiff]; first | done | rfl | assumption) | simp [put_at, *]), (by first | rfl | (simp only [put_at, ↓reduceIte, Nat.reduceEqDiff]; first | done | rfl | assumption) | simp [put_at, *])⟩ ?_ ?_
    · rintro r fr C hr ⟨hle, kn, wn, f1, f7, f8, f9, f10⟩ N' hN'
      have g0 : decide ((r : Int) < 12) = true := by simp; omega
      have g1 : (0 ≤ (r : Int) ∧ (r : Int) < ((12 : Nat) : Int)) = True := by simp; omega
      have g3 := up1 hr (by omega)
      have hin := next_in hv hi (List.getElem_mem hk)
      have hset := flagsTo_set (a := orOf l ((nextL qs[i] i).take k)) (b := lvAt l ((nextL qs[i] i)[k]).toNat) hr
      have q1 : C.cell (some ⟨b, r, none⟩) = some (.bool ((orOf l ((nextL qs[i] i).take k)).testBit r)) := kn.cell (by simp [bools, flagsTo_at hr])
      have fin : ∀ (fr' : Fr) (x : Bool), x = ((orOf l ((nextL qs[i] i).take k)).testBit r || (lvAt l ((nextL qs[i] i)[k]).toNat).testBit r) → fr' 1 = .slice B qs.length cb → fr' 7 = .slice (some ⟨b, 0, none⟩) 12 12 → fr' 8 = .slice A2 (nextL qs[i] i).length e2 → fr' 9 = .int .i64 k → fr' 10 = .int .i64 ((r + 1 : Nat) : Int) →
          ∀ C', Chg C C' [b] → Kn C' b ⟨setR (bools (flagsTo (orOf l ((nextL qs[i] i).take k)) (lvAt l ((nextL qs[i] i)[k]).toNat) r)) r [.bool x], true, 4, 12 * 1⟩ → N' fr' C' := by
        rintro fr' _ rfl h1 h7 h8 h9 h10 C' hc' k'
        refine hN' _ _ _ (.refl _) ⟨hc'.keep hle (New.one hb), by rw [← hset, ← bools_set]; exact k', wn.chg hc' (fun y hy e => hb2 (by simp at e; exact e ▸ hy)), h1, h7, h8, h9, h10⟩
      cases hbit : (orOf l ((nextL qs[i] i).take k)).testBit r with
      | true =>
        rw [hbit] at q1
        repeat' (first | simp -implicitDefEqProofs only [zG1,zG2,zG3,zG4,zG5,zG6,zG7,eq_self,resV,rval,X.val,binv,fillL,setR,↓reduceIte,Nat.reduceEqDiff,Nat.reduceAdd,Nat.reduceMul,Nat.reduceLeDiff,Nat.reduceLT,Nat.reduceSub,reduceCtorEq,zGq, f1, f7, f8, f9, f10, g0, g1, g3, q1, adr_lit, Nat.zero_add, Nat.mul_one] | ((with_reducible refine rows_intro (fun _ hb => ?_)); try simp only [set_none, ne_eq] at hb) | ((with_reducible refine new_intro (fun _ hb => ?_)); try simp only [set_none, ne_eq] at hb) | (with_reducible refine draw_same ?_) | ((with_reducible refine gd_split ?_ (fun _ => ?_) (fun _ => ?_)); exact rfl) | ((with_reducible refine td_split ?_ (fun _ => ?_) (fun _ => ?_)); exact rfl) | (with_reducible refine c_split (fun _ => ?_) (fun _ => ?_)))
        refine st_kn kn rfl rfl (by simp [bools_len, flagsTo_len]; omega) (by simp [vcB, ocB]) (fun C6 hc6 ho6 k6 => ?_)
        repeat' (first | simp -implicitDefEqProofs only [zG1,zG2,zG3,zG4,zG5,zG6,zG7,eq_self,resV,rval,X.val,binv,fillL,setR,↓reduceIte,Nat.reduceEqDiff,Nat.reduceAdd,Nat.reduceMul,Nat.reduceLeDiff,Nat.reduceLT,Nat.reduceSub,reduceCtorEq,zGq, f1, f7, f8, f9, f10, g3] | ((with_reducible refine rows_intro (fun _ hb => ?_)); try simp only [set_none, ne_eq] at hb) | ((with_reducible refine new_intro (fun _ hb => ?_)); try simp only [set_none, ne_eq] at hb) | (with_reducible refine draw_same ?_) | ((with_reducible refine gd_split ?_ (fun _ => ?_) (fun _ => ?_)); exact rfl) | ((with_reducible refine td_split ?_ (fun _ => ?_) (fun _ => ?_)); exact rfl) | (with_reducible refine c_split (fun _ => ?_) (fun _ => ?_)))
        exact fin _ true (by rw [hbit]; rfl) (by first | rfl | (simp only [put_at, ↓reduceIte, Nat.reduceEqDiff]; first | done | rfl | assumption) | simp [put_at, *]) (by first | rfl | (simp only [put_at, ↓reduceIte, Nat.reduceEqDiff]; first | done | rfl | assumption) | simp [put_at, *]) (by first | rfl | (simp only [put_at, ↓reduceIte, Nat.reduceEqDiff]; first | done | rfl | assumption) | simp [put_at, *]) (by first | rfl | (simp only [put_at, ↓reduceIte, Nat.reduceEqDiff]; first | done | rfl | assumption) | simp [put_at, *]) (by first | rfl | (simp only [put_at, ↓reduceIte, Nat.reduceEqDiff]; first | done | rfl | assumption) | simp [put_at, *]) _ hc6 k6
      | false =>
        rw [hbit] at q1
        obtain ⟨j, hj⟩ : ∃ j : Nat, (nextL qs[i] i)[k] = (j : Int) := ⟨((nextL qs[i] i)[k]).toNat, by omega⟩
        have q2 := wn.fl'.1.int hk
        have q3 := wn.fl'.1.ints_is hk
        have g4 := rng hk
        rw [hj] at q2 hin fin
        rw [Int.toNat_natCast] at fin
        have hjn : j < qs.length := by omega
        have g5 := rng hjn
        have hBC := hB.trans hle
        obtain ⟨q4, A', n', c', q5, fl, hlen⟩ := hBC.row (i := j) (by rw [rowsM_len]; omega)
        rw [rowsM_at (by omega)] at fl hlen
        rw [bools_len, flagsM_len, Nat.mul_one] at hlen
        subst hlen
        have q6 := fl r _ (by rw [bools, List.getElem?_map, flagsM_at hr]; rfl)
        have q7 := fl.is (i := r) (by rw [bools_len, flagsM_len]; exact hr)
        repeat' (first | simp -implicitDefEqProofs only [zG1,zG2,zG3,zG4,zG5,zG6,zG7,eq_self,resV,rval,X.val,binv,fillL,setR,↓reduceIte,Nat.reduceEqDiff,Nat.reduceAdd,Nat.reduceMul,Nat.reduceLeDiff,Nat.reduceLT,Nat.reduceSub,reduceCtorEq,zGq, f1, f7, f8, f9, f10, g0, g1, g3, g4, g5, q1, q2, q3, q4, q5, q6, q7, adr_lit, Nat.zero_add, Nat.mul_one] | ((with_reducible refine rows_intro (fun _ hb => ?_)); try simp only [set_none, ne_eq] at hb) | ((with_reducible refine new_intro (fun _ hb => ?_)); try simp only [set_none, ne_eq] at hb) | (with_reducible refine draw_same ?_) | ((with_reducible refine gd_split ?_ (fun _ => ?_) (fun _ => ?_)); exact rfl) | ((with_reducible refine td_split ?_ (fun _ => ?_) (fun _ => ?_)); exact rfl) | (with_reducible refine c_split (fun _ => ?_) (fun _ => ?_)))
        refine st_kn kn rfl rfl (by simp [bools_len, flagsTo_len]; omega) (by simp [vcB, ocB]) (fun C6 hc6 ho6 k6 => ?_)
        repeat' (first | simp -implicitDefEqProofs only [zG1,zG2,zG3,zG4,zG5,zG6,zG7,eq_self,resV,rval,X.val,binv,fillL,setR,↓reduceIte,Nat.reduceEqDiff,Nat.reduceAdd,Nat.reduceMul,Nat.reduceLeDiff,Nat.reduceLT,Nat.reduceSub,reduceCtorEq,zGq, f1, f7, f8, f9, f10, g3] | ((with_reducible refine rows_intro (fun _ hb => ?_)); try simp only [set_none, ne_eq] at hb) | ((with_reducible refine new_intro (fun _ hb => ?_)); try simp only [set_none, ne_eq] at hb) | (with_reducible refine draw_same ?_) | ((with_reducible refine gd_split ?_ (fun _ => ?_) (fun _ => ?_)); exact rfl) | ((with_reducible refine td_split ?_ (fun _ => ?_) (fun _ => ?_)); exact rfl) | (with_reducible refine c_split (fun _ => ?_) (fun _ => ?_)))
        rw [hj, Int.toNat_natCast] at k6
        exact fin _ _ (by rw [hbit]; rfl) (by first | rfl | (simp only [put_at, ↓reduceIte, Nat.reduceEqDiff]; first | done | rfl | assumption) | simp [put_at, *]) (by first | rfl | (simp only [put_at, ↓reduceIte, Nat.reduceEqDiff]; first | done | rfl | assumption) | simp [put_at, *]) (by first | rfl | (simp only [put_at, ↓reduceIte, Nat.reduceEqDiff]; first | done | rfl | assumption) | simp [put_at, *]) (by first | rfl | (simp only [put_at, ↓reduceIte, Nat.reduceEqDiff]; first | done | rfl | assumption) | simp [put_at, *]) (by first | rfl | (simp only [put_at, ↓reduceIte, Nat.reduceEqDiff]; first | done | rfl | assumption) | simp [put_at, *]) _ hc6 k6
    · rintro fr C ⟨hle, kn, wn, f1, f7, f8, f9, f10⟩ N'
      have g0 : decide (((12 : Nat) : Int) < 12) = false := by decide
      repeat' (first | simp -implicitDefEqProofs only [zG1,zG2,zG3,zG4,zG5,zG6,zG7,eq_self,resV,rval,X.val,binv,fillL,setR,↓reduceIte,Nat.reduceEqDiff,Nat.reduceAdd,Nat.reduceMul,Nat.reduceLeDiff,Nat.reduceLT,Nat.reduceSub,reduceCtorEq,zGq, f1, f7, f8, f9, f10, g0, g2] | ((with_reducible refine rows_intro (fun _ hb => ?_)); try simp only [set_none, ne_eq] at hb) | ((with_reducible refine new_intro (fun _ hb => ?_)); try simp only [set_none, ne_eq] at hb) | (with_reducible refine draw_same ?_) | ((with_reducible refine gd_split ?_ (fun _ => ?_) (fun _ => ?_)); exact rfl) | ((with_reducible refine td_split ?_ (fun _ => ?_) (fun _ => ?_)); exact rfl) | (with_reducible refine c_split (fun _ => ?_) (fun _ => ?_)))
      rw [flagsTo_end, ← hst] at kn
      exact hN _ _ _ (.refl _) ⟨hle, kn, wn, (by first | rfl | (simp only [put_at, ↓reduceIte, Nat.reduceEqDiff]; first | done | rfl | assumption) | simp [put_at, *]), (by first | rfl | (simp only [put_at, ↓reduceIte, Nat.reduceEqDiff]; first | done | rfl | assumption) | simp [put_at, *]), (by first | rfl | (simp only [put_at, ↓reduceIte, Nat.reduceEqDiff]; first | done | rfl | assumption) | simp [put_at, *]), (by first | rfl | (simp only [put_at, ↓reduceIte, Nat.reduceEqDiff]; first | done | rfl | assumption) | simp [put_at, *])⟩
  · rintro fr C ⟨hle, kn, wn, f1, f7, f8, f9⟩ N
    have g0 : decide (((nextL qs[i] i).length : Int) < ((nextL qs[i] i).length : Int)) = false := by simp
    rw [List.take_length] at kn
    have e : behindM qs l i = orOf l (nextL qs[i] i) := by rw [behindM, nextAt_eq hi]
    repeat' (first | simp -implicitDefEqProofs only [zG1,zG2,zG3,zG4,zG5,zG6,zG7,eq_self,resV,rval,X.val,binv,fillL,setR,↓reduceIte,Nat.reduceEqDiff,Nat.reduceAdd,Nat.reduceMul,Nat.reduceLeDiff,Nat.reduceLT,Nat.reduceSub,reduceCtorEq,zGq, f1, f7, f8, f9, g0] | ((with_reducible refine rows_intro (fun _ hb => ?_)); try simp only [set_none, ne_eq] at hb) | ((with_reducible refine new_intro (fun _ hb => ?_)); try simp only [set_none, ne_eq] at hb) | (with_reducible refine draw_same ?_) | ((with_reducible refine gd_split ?_ (fun _ => ?_) (fun _ => ?_)); exact rfl) | ((with_reducible refine td_split ?_ (fun _ => ?_) (fun _ => ?_)); exact rfl) | (with_reducible refine c_split (fun _ => ?_) (fun _ => ?_)))
    refine ret_same (h _ _ [b] hle (New.one hb) ?_)
    rw [e]
    exact Rw.mk kn (by rw [bools_len, flagsM_len]) (Nat.le_refl _) (by simp [maxLen])
def bitsOf : List Int → Nat
  | [] => 0
  | x :: r => 2 ^ x.toNat ||| bitsOf r
theorem bitsOf_snoc (x : Int) : ∀ xs, bitsOf (xs ++ [x]) = bitsOf xs ||| 2 ^ x.toNat
  | [] => by simp [bitsOf]
  | y :: r => by simp only [List.cons_append, bitsOf, bitsOf_snoc x r, Nat.or_assoc]
theorem bitsOf_take {xs : List Int} {k : Nat} (h : k < xs.length) : bitsOf (xs.take (k + 1)) = bitsOf (xs.take k) ||| 2 ^ (xs[k]).toNat := by
  rw [List.take_add_one, List.getElem?_eq_getElem h]
  exact bitsOf_snoc _ _
theorem bitsOf_uses (q : Qd) : bitsOf (usesL q) = usesN q := by
  simp only [usesL, usesN]
  split
  · simp [bitsOf]
  · split
    · by_cases he : q.a = q.b
      · simp [he, bitsOf]
      · by_cases hlt : q.b < q.a
        · rw [if_neg he, if_pos hlt, if_neg (by omega)]; simp [bitsOf, Nat.or_comm]
        · rw [if_neg he, if_neg hlt, if_pos (by omega)]; simp [bitsOf]
    · simp [bitsOf]
theorem uses_in {q : Qd} {m : Int} (h : quadValid q m = true) {x : Int} (hx : x ∈ usesL q) : 0 ≤ x ∧ x < 12 := by
  obtain ⟨ga, gb⟩ := valid_regs h
  simp only [usesL] at hx
  repeat' split at hx
  all_goals (simp at hx; try omega)
theorem usesL_le (q : Qd) : (usesL q).length ≤ 2 := by
  simp only [usesL]
  repeat' split
  all_goals simp
theorem l32Before_ok (q : Qd) (hq : quadValid q 600 = true) (A : Option Addr) (c m : Nat) (hx : Fl H A (bools (flagsM m)))
    (h : ∀ v C ib, AHeap.le H C → New H ib → Rw C 4 1 v 12 (bools (flagsM (beforeM q m))) ib → K v C) : ACalls Tryz.prog w0 114 [q.val, .slice A 12 c] H K := by
  have hqs : quadSets q = setsOf q := by simp [quadSets, hq]
  have hqu : quadUses q = usesL q := by simp [quadUses, hq]
  have hsl := sets_lt hq
  refine acalls_of_sx mix Tryz.func114 of114 (by simp [ir114]) ?_; rw [ir114]; (try delta qT qI qC qO qM qG)
  repeat' (first | simp -implicitDefEqProofs only [zG1,zG2,zG3,zG4,zG5,zG6,zG7,eq_self,resV,rval,X.val,binv,fillL,setR,↓reduceIte,Nat.reduceEqDiff,Nat.reduceAdd,Nat.reduceMul,Nat.reduceLeDiff,Nat.reduceLT,Nat.reduceSub,reduceCtorEq,zGq] | ((with_reducible refine rows_intro (fun _ hb => ?_)); try simp only [set_none, ne_eq] at hb) | ((with_reducible refine new_intro (fun _ hb => ?_)); try simp only [set_none, ne_eq] at hb) | (with_reducible refine draw_same ?_) | ((with_reducible refine gd_split ?_ (fun _ => ?_) (fun _ => ?_)); exact rfl) | ((with_reducible refine td_split ?_ (fun _ => ?_) (fun _ => ?_)); exact rfl) | (with_reducible refine c_split (fun _ => ?_) (fun _ => ?_)))
  rename_i x1 hb1 x2
  have l1 := (AHeap.le.refl H).fresh hb1 ⟨q.cells, true, 36, 5⟩
  have l2 := le_fresh0 l1 hb.2 ⟨[], true, 4, 0⟩
  have kq := (Kn.same H x1 ⟨q.cells, true, 36, 5⟩).set (fun e => hb.1 e.symm) ⟨[], true, 4, 0⟩
  refine app_rw (n := 0) (xs := []) (bs := [x2]) (news := bools (flagsM m)) (Rw.mk (Kn.same _ _ _) rfl (Nat.le_refl _) (Nat.zero_le _)) (hx.le l2) (by rw [bools_len, flagsM_len]; rfl) (bools_oc _) (by simp [maxLen]) (by omega) (fun v3 C3 bs3 hc3 hn3 w3 => ?_)
  rw [Nat.zero_add, List.nil_append] at w3
  have l3 : AHeap.le H C3 := hc3.keep l2 (New.one hb.2)
  have kq3 := kq.chg hc3 (by simpa using fun e => hb.1 e.symm)
  obtain ⟨b, cb, rfl, rfl, hl3, hm3, -, k3⟩ := w3.open_ (by omega)
  have hbn : H b = none := by
    rcases hn3 b (by simp) with h1 | h1
    · simp at h1; rw [h1]; exact hb.2
    · exact l2.none h1
  have hbq : ¬ b = x1 := by
    rcases hn3 b (by simp) with h1 | h1
    · simp at h1; rw [h1]; exact hb.1
    · exact fun e => kq.ne (e ▸ h1)
  have c0 := kq3.cell (j := 0) rfl
  have c1 := kq3.cell (j := 1) rfl
  have c2 := kq3.cell (j := 2) rfl
  have c3 := kq3.cell (j := 3) rfl
  have c4 := kq3.cell (j := 4) rfl
  by_cases hr : 0 ≤ setsOf q
  · obtain ⟨r, hr'⟩ : ∃ r : Nat, setsOf q = (r : Int) := ⟨(setsOf q).toNat, by omega⟩
    have d1 : decide ((r : Int) ≥ 0) = true := by simp
    have hset : ∀ D : Value → AHeap → Prop, D (.int .i64 (r : Int)) C3 → ACalls Tryz.prog w0 118 [q.val] C3 D := fun D hD => quadSetsS_ok _ _ _ q (by rw [hqs, hr']; exact hD)
    have g1 : (0 ≤ (r : Int) ∧ (r : Int) < ((12 : Nat) : Int)) = True := by simp; omega
    have hbm : beforeM q m = (m &&& (65535 - 2 ^ r)) ||| usesN q := by rw [beforeM, clearM, if_pos hr, hr', Int.toNat_natCast]
    repeat' (first | simp -implicitDefEqProofs only [zG1,zG2,zG3,zG4,zG5,zG6,zG7,eq_self,resV,rval,X.val,binv,fillL,setR,↓reduceIte,Nat.reduceEqDiff,Nat.reduceAdd,Nat.reduceMul,Nat.reduceLeDiff,Nat.reduceLT,Nat.reduceSub,reduceCtorEq,zGq, c0, c1, c2, c3, c4, d1, g1, adr_lit, Nat.zero_add, Nat.mul_one] | ((with_reducible refine rows_intro (fun _ hb => ?_)); try simp only [set_none, ne_eq] at hb) | ((with_reducible refine new_intro (fun _ hb => ?_)); try simp only [set_none, ne_eq] at hb) | (with_reducible refine draw_same ?_) | ((with_reducible refine gd_split ?_ (fun _ => ?_) (fun _ => ?_)); exact rfl) | ((with_reducible refine td_split ?_ (fun _ => ?_) (fun _ => ?_)); exact rfl) | (with_reducible refine c_split (fun _ => ?_) (fun _ => ?_)) | (with_reducible refine hset _ ?_))
    refine st_kn k3 rfl rfl (by simp [bools_len, flagsM_len]; omega) (by simp [vcB, ocB]) (fun C4 hc4 ho4 k4 => ?_)
    have l4 := hc4.keep l3 (New.one hbn)
    have k4' : Kn C4 b ⟨bools (flagsM (m &&& (65535 - 2 ^ r))), true, 4, cb * 1⟩ := by rw [← flags_clear (by omega), ← bools_set]; exact k4
    have kq4 := kq3.chg hc4 (by simpa using fun e => hbq e.symm)
    have c0 := kq4.cell (j := 0) rfl
    have c1 := kq4.cell (j := 1) rfl
    have c2 := kq4.cell (j := 2) rfl
    have c3 := kq4.cell (j := 3) rfl
    have c4 := kq4.cell (j := 4) rfl
    repeat' (first | simp -implicitDefEqProofs only [zG1,zG2,zG3,zG4,zG5,zG6,zG7,eq_self,resV,rval,X.val,binv,fillL,setR,↓reduceIte,Nat.reduceEqDiff,Nat.reduceAdd,Nat.reduceMul,Nat.reduceLeDiff,Nat.reduceLT,Nat.reduceSub,reduceCtorEq,zGq, c0, c1, c2, c3, c4, adr_lit, Nat.zero_add, Nat.mul_one] | ((with_reducible refine rows_intro (fun _ hb => ?_)); try simp only [set_none, ne_eq] at hb) | ((with_reducible refine new_intro (fun _ hb => ?_)); try simp only [set_none, ne_eq] at hb) | (with_reducible refine draw_same ?_) | ((with_reducible refine gd_split ?_ (fun _ => ?_) (fun _ => ?_)); exact rfl) | ((with_reducible refine td_split ?_ (fun _ => ?_) (fun _ => ?_)); exact rfl) | (with_reducible refine c_split (fun _ => ?_) (fun _ => ?_)))
    refine quadUsesS_ok _ _ _ q (rw_of fun v5 C5 bs5 l5 n5 w5 => ?_)
    rw [hqu] at w5
    obtain ⟨A5, e5, rfl, -⟩ := w5.fl
    have hb5 : ¬ b ∈ bs5 := fun hm => k4'.ne (n5 _ hm)
    repeat' (first | simp -implicitDefEqProofs only [zG1,zG2,zG3,zG4,zG5,zG6,zG7,eq_self,resV,rval,X.val,binv,fillL,setR,↓reduceIte,Nat.reduceEqDiff,Nat.reduceAdd,Nat.reduceMul,Nat.reduceLeDiff,Nat.reduceLT,Nat.reduceSub,reduceCtorEq,zGq] | ((with_reducible refine rows_intro (fun _ hb => ?_)); try simp only [set_none, ne_eq] at hb) | ((with_reducible refine new_intro (fun _ hb => ?_)); try simp only [set_none, ne_eq] at hb) | (with_reducible refine draw_same ?_) | ((with_reducible refine gd_split ?_ (fun _ => ?_) (fun _ => ?_)); exact rfl) | ((with_reducible refine td_split ?_ (fun _ => ?_) (fun _ => ?_)); exact rfl) | (with_reducible refine c_split (fun _ => ?_) (fun _ => ?_)))
    refine for_rule (usesL q).length (fun k fr C => AHeap.le H C ∧ Kn C b ⟨bools (flagsM ((m &&& (65535 - 2 ^ r)) ||| bitsOf ((usesL q).take k))), true, 4, cb * 1⟩ ∧ Rw C 3 1 (.slice A5 (usesL q).length e5) (usesL q).length (ints (usesL q)) bs5 ∧
      fr 5 = .slice (some ⟨b, 0, none⟩) 12 cb ∧ fr 6 = .slice A5 (usesL q).length e5 ∧ fr 7 = .int .i64 k)
      ⟨l4.trans l5, by simpa [bitsOf] using k4'.trans l5, w5, (by first | rfl | (simp only [put_at, ↓reduceIte, Nat.reduceEqDiff]; first | done | rfl | assumption) | simp [put_at, *]), (by first | rfl | (simp only [put_at, ↓reduceIte, Nat.reduceEqDiff]; first | done | rfl | assumption) | simp [put_at, *]), (by first | rfl | (simp only [put_at, ↓reduceIte, Nat.reduceEqDiff]; first | done | rfl | assumption) | simp [put_at, *])⟩ ?_ ?_
    · rintro k fr C hk ⟨hle, kn, wn, f5, f6, f7⟩ N hN
      have hul := usesL_le q
      have g0 := lt_dec hk
      have g1 := rng hk
      have g2 := up1 hk (by omega)
      have hin := uses_in hq (List.getElem_mem hk)
      have hst := bitsOf_take hk
      obtain ⟨j, hj⟩ : ∃ j : Nat, (usesL q)[k] = (j : Int) := ⟨((usesL q)[k]).toNat, by omega⟩
      have q1 := wn.fl'.1.int hk
      have q2 := wn.fl'.1.ints_is hk
      rw [hj] at q1 hin hst
      rw [Int.toNat_natCast] at hst
      have g3 : (0 ≤ (j : Int) ∧ (j : Int) < ((12 : Nat) : Int)) = True := by simp; omega
      repeat' (first | simp -implicitDefEqProofs only [zG1,zG2,zG3,zG4,zG5,zG6,zG7,eq_self,resV,rval,X.val,binv,fillL,setR,↓reduceIte,Nat.reduceEqDiff,Nat.reduceAdd,Nat.reduceMul,Nat.reduceLeDiff,Nat.reduceLT,Nat.reduceSub,reduceCtorEq,zGq, f5, f6, f7, g0, g1, g2, g3, q1, q2, adr_lit, Nat.zero_add, Nat.mul_one] | ((with_reducible refine rows_intro (fun _ hb => ?_)); try simp only [set_none, ne_eq] at hb) | ((with_reducible refine new_intro (fun _ hb => ?_)); try simp only [set_none, ne_eq] at hb) | (with_reducible refine draw_same ?_) | ((with_reducible refine gd_split ?_ (fun _ => ?_) (fun _ => ?_)); exact rfl) | ((with_reducible refine td_split ?_ (fun _ => ?_) (fun _ => ?_)); exact rfl) | (with_reducible refine c_split (fun _ => ?_) (fun _ => ?_)))
      refine st_kn kn rfl rfl (by simp [bools_len, flagsM_len]; omega) (by simp [vcB, ocB]) (fun C6 hc6 ho6 k6 => ?_)
      repeat' (first | simp -implicitDefEqProofs only [zG1,zG2,zG3,zG4,zG5,zG6,zG7,eq_self,resV,rval,X.val,binv,fillL,setR,↓reduceIte,Nat.reduceEqDiff,Nat.reduceAdd,Nat.reduceMul,Nat.reduceLeDiff,Nat.reduceLT,Nat.reduceSub,reduceCtorEq,zGq, f5, f6, f7, g2] | ((with_reducible refine rows_intro (fun _ hb => ?_)); try simp only [set_none, ne_eq] at hb) | ((with_reducible refine new_intro (fun _ hb => ?_)); try simp only [set_none, ne_eq] at hb) | (with_reducible refine draw_same ?_) | ((with_reducible refine gd_split ?_ (fun _ => ?_) (fun _ => ?_)); exact rfl) | ((with_reducible refine td_split ?_ (fun _ => ?_) (fun _ => ?_)); exact rfl) | (with_reducible refine c_split (fun _ => ?_) (fun _ => ?_)))
      refine hN _ _ _ (.refl _) ⟨hc6.keep hle (New.one hbn), ?_, wn.chg hc6 (fun y hy e => hb5 (by simp at e; exact e ▸ hy)), (by first | rfl | (simp only [put_at, ↓reduceIte, Nat.reduceEqDiff]; first | done | rfl | assumption) | simp [put_at, *]), (by first | rfl | (simp only [put_at, ↓reduceIte, Nat.reduceEqDiff]; first | done | rfl | assumption) | simp [put_at, *]), (by first | rfl | (simp only [put_at, ↓reduceIte, Nat.reduceEqDiff]; first | done | rfl | assumption) | simp [put_at, *])⟩
      rw [hst, ← Nat.or_assoc, ← flags_or (by omega), ← bools_set]; exact k6
    · rintro fr C ⟨hle, kn, wn, f5, f6, f7⟩ N
      have g0 : decide (((usesL q).length : Int) < ((usesL q).length : Int)) = false := by simp
      repeat' (first | simp -implicitDefEqProofs only [zG1,zG2,zG3,zG4,zG5,zG6,zG7,eq_self,resV,rval,X.val,binv,fillL,setR,↓reduceIte,Nat.reduceEqDiff,Nat.reduceAdd,Nat.reduceMul,Nat.reduceLeDiff,Nat.reduceLT,Nat.reduceSub,reduceCtorEq,zGq, f5, f6, f7, g0] | ((with_reducible refine rows_intro (fun _ hb => ?_)); try simp only [set_none, ne_eq] at hb) | ((with_reducible refine new_intro (fun _ hb => ?_)); try simp only [set_none, ne_eq] at hb) | (with_reducible refine draw_same ?_) | ((with_reducible refine gd_split ?_ (fun _ => ?_) (fun _ => ?_)); exact rfl) | ((with_reducible refine td_split ?_ (fun _ => ?_) (fun _ => ?_)); exact rfl) | (with_reducible refine c_split (fun _ => ?_) (fun _ => ?_)))
      rw [List.take_length, bitsOf_uses] at kn
      refine ret_same (h _ _ [b] hle (New.one hbn) ?_)
      rw [hbm]
      exact Rw.mk kn (by rw [bools_len, flagsM_len]) hl3 hm3
  · have d1 : decide (setsOf q ≥ 0) = false := by simp; omega
    have hset : ∀ D : Value → AHeap → Prop, D (.int .i64 (setsOf q)) C3 → ACalls Tryz.prog w0 118 [q.val] C3 D := fun D hD => quadSetsS_ok _ _ _ q (by rw [hqs]; exact hD)
    have hbm : beforeM q m = m ||| usesN q := by rw [beforeM, clearM, if_neg hr]
    repeat' (first | simp -implicitDefEqProofs only [zG1,zG2,zG3,zG4,zG5,zG6,zG7,eq_self,resV,rval,X.val,binv,fillL,setR,↓reduceIte,Nat.reduceEqDiff,Nat.reduceAdd,Nat.reduceMul,Nat.reduceLeDiff,Nat.reduceLT,Nat.reduceSub,reduceCtorEq,zGq, c0, c1, c2, c3, c4, d1, adr_lit, Nat.zero_add, Nat.mul_one] | ((with_reducible refine rows_intro (fun _ hb => ?_)); try simp only [set_none, ne_eq] at hb) | ((with_reducible refine new_intro (fun _ hb => ?_)); try simp only [set_none, ne_eq] at hb) | (with_reducible refine draw_same ?_) | ((with_reducible refine gd_split ?_ (fun _ => ?_) (fun _ => ?_)); exact rfl) | ((with_reducible refine td_split ?_ (fun _ => ?_) (fun _ => ?_)); exact rfl) | (with_reducible refine c_split (fun _ => ?_) (fun _ => ?_)) | (with_reducible refine hset _ ?_))
    refine quadUsesS_ok _ _ _ q (rw_of fun v5 C5 bs5 l5 n5 w5 => ?_)
    rw [hqu] at w5
    obtain ⟨A5, e5, rfl, -⟩ := w5.fl
    have hb5 : ¬ b ∈ bs5 := fun hm => k3.ne (n5 _ hm)
    repeat' (first | simp -implicitDefEqProofs only [zG1,zG2,zG3,zG4,zG5,zG6,zG7,eq_self,resV,rval,X.val,binv,fillL,setR,↓reduceIte,Nat.reduceEqDiff,Nat.reduceAdd,Nat.reduceMul,Nat.reduceLeDiff,Nat.reduceLT,Nat.reduceSub,reduceCtorEq,zGq] | ((with_reducible refine rows_intro (fun _ hb => ?_)); try simp only [set_none, ne_eq] at hb) | ((with_reducible refine new_intro (fun _ hb => ?_)); try simp only [set_none, ne_eq] at hb) | (with_reducible refine draw_same ?_) | ((with_reducible refine gd_split ?_ (fun _ => ?_) (fun _ => ?_)); exact rfl) | ((with_reducible refine td_split ?_ (fun _ => ?_) (fun _ => ?_)); exact rfl) | (with_reducible refine c_split (fun _ => ?_) (fun _ => ?_)))
    refine for_rule (usesL q).length (fun k fr C => AHeap.le H C ∧ Kn C b ⟨bools (flagsM (m ||| bitsOf ((usesL q).take k))), true, 4, cb * 1⟩ ∧ Rw C 3 1 (.slice A5 (usesL q).length e5) (usesL q).length (ints (usesL q)) bs5 ∧
      fr 5 = .slice (some ⟨b, 0, none⟩) 12 cb ∧ fr 6 = .slice A5 (usesL q).length e5 ∧ fr 7 = .int .i64 k)
      ⟨l3.trans l5, by simpa [bitsOf] using k3.trans l5, w5, (by first | rfl | (simp only [put_at, ↓reduceIte, Nat.reduceEqDiff]; first | done | rfl | assumption) | simp [put_at, *]), (by first | rfl | (simp only [put_at, ↓reduceIte, Nat.reduceEqDiff]; first | done | rfl | assumption) | simp [put_at, *]), (by first | rfl | (simp only [put_at, ↓reduceIte, Nat.reduceEqDiff]; first | done | rfl | assumption) | simp [put_at, *])⟩ ?_ ?_
    · rintro k fr C hk ⟨hle, kn, wn, f5, f6, f7⟩ N hN
      have hul := usesL_le q
      have g0 := lt_dec hk
      have g1 := rng hk
      have g2 := up1 hk (by omega)
      have hin := uses_in hq (List.getElem_mem hk)
      have hst := bitsOf_take hk
      obtain ⟨j, hj⟩ : ∃ j : Nat, (usesL q)[k] = (j : Int) := ⟨((usesL q)[k]).toNat, by omega⟩
      have q1 := wn.fl'.1.int hk
      have q2 := wn.fl'.1.ints_is hk
      rw [hj] at q1 hin hst
      rw [Int.toNat_natCast] at hst
      have g3 : (0 ≤ (j : Int) ∧ (j : Int) < ((12 : Nat) : Int)) = True := by simp; omega
      repeat' (first | simp -implicitDefEqProofs only [zG1,zG2,zG3,zG4,zG5,zG6,zG7,eq_self,resV,rval,X.val,binv,fillL,setR,↓reduceIte,Nat.reduceEqDiff,Nat.reduceAdd,Nat.reduceMul,Nat.reduceLeDiff,Nat.reduceLT,Nat.reduceSub,reduceCtorEq,zGq, f5, f6, f7, g0, g1, g2, g3, q1, q2, adr_lit, Nat.zero_add, Nat.mul_one] | ((with_reducible refine rows_intro (fun _ hb => ?_)); try simp only [set_none, ne_eq] at hb) | ((with_reducible refine new_intro (fun _ hb => ?_)); try simp only [set_none, ne_eq] at hb) | (with_reducible refine draw_same ?_) | ((with_reducible refine gd_split ?_ (fun _ => ?_) (fun _ => ?_)); exact rfl) | ((with_reducible refine td_split ?_ (fun _ => ?_) (fun _ => ?_)); exact rfl) | (with_reducible refine c_split (fun _ => ?_) (fun _ => ?_)))
      refine st_kn kn rfl rfl (by simp [bools_len, flagsM_len]; omega) (by simp [vcB, ocB]) (fun C6 hc6 ho6 k6 => ?_)
      repeat' (first | simp -implicitDefEqProofs only [zG1,zG2,zG3,zG4,zG5,zG6,zG7,eq_self,resV,rval,X.val,binv,fillL,setR,↓reduceIte,Nat.reduceEqDiff,Nat.reduceAdd,Nat.reduceMul,Nat.reduceLeDiff,Nat.reduceLT,Nat.reduceSub,reduceCtorEq,zGq, f5, f6, f7, g2] | ((with_reducible refine rows_intro (fun _ hb => ?_)); try simp only [set_none, ne_eq] at hb) | ((with_reducible refine new_intro (fun _ hb => ?_)); try simp only [set_none, ne_eq] at hb) | (with_reducible refine draw_same ?_) | ((with_reducible refine gd_split ?_ (fun _ => ?_) (fun _ => ?_)); exact rfl) | ((with_reducible refine td_split ?_ (fun _ => ?_) (fun _ => ?_)); exact rfl) | (with_reducible refine c_split (fun _ => ?_) (fun _ => ?_)))
      refine hN _ _ _ (.refl _) ⟨hc6.keep hle (New.one hbn), ?_, wn.chg hc6 (fun y hy e => hb5 (by simp at e; exact e ▸ hy)), (by first | rfl | (simp only [put_at, ↓reduceIte, Nat.reduceEqDiff]; first | done | rfl | assumption) | simp [put_at, *]), (by first | rfl | (simp only [put_at, ↓reduceIte, Nat.reduceEqDiff]; first | done | rfl | assumption) | simp [put_at, *]), (by first | rfl | (simp only [put_at, ↓reduceIte, Nat.reduceEqDiff]; first | done | rfl | assumption) | simp [put_at, *])⟩
      rw [hst, ← Nat.or_assoc, ← flags_or (by omega), ← bools_set]; exact k6
    · rintro fr C ⟨hle, kn, wn, f5, f6, f7⟩ N
      have g0 : decide (((usesL q).length : Int) < ((usesL q).length : Int)) = false := by simp
      repeat' (first | simp -implicitDefEqProofs only [zG1,zG2,zG3,zG4,zG5,zG6,zG7,eq_self,resV,rval,X.val,binv,fillL,setR,↓reduceIte,Nat.reduceEqDiff,Nat.reduceAdd,Nat.reduceMul,Nat.reduceLeDiff,Nat.reduceLT,Nat.reduceSub,reduceCtorEq,zGq, f5, f6, f7, g0] | ((with_reducible refine rows_intro (fun _ hb => ?_)); try simp only [set_none, ne_eq] at hb) | ((with_reducible refine new_intro (fun _ hb => ?_)); try simp only [set_none, ne_eq] at hb) | (with_reducible refine draw_same ?_) | ((with_reducible refine gd_split ?_ (fun _ => ?_) (fun _ => ?_)); exact rfl) | ((with_reducible refine td_split ?_ (fun _ => ?_) (fun _ => ?_)); exact rfl) | (with_reducible refine c_split (fun _ => ?_) (fun _ => ?_)))
      rw [List.take_length, bitsOf_uses] at kn
      refine ret_same (h _ _ [b] hle (New.one hbn) ?_)
      rw [hbm]
      exact Rw.mk kn (by rw [bools_len, flagsM_len]) hl3 hm3
theorem l32Same_ok (A B : Option Addr) (ca cb : Nat) (xs ys : List Bool) (hx : Fl H A (bools xs)) (hy : Fl H B (bools ys)) (hl : xs.length = ys.length) (hn : xs.length ≤ 1048576) (h : K (.bool (decide (xs = ys))) H) :
    ACalls Tryz.prog w0 115 [.slice A xs.length ca, .slice B ys.length cb] H K := by
  refine acalls_of_sx mix Tryz.func115 of115 (by simp [ir115]) ?_; rw [ir115]; (try delta qT qI qC qO qM qG)
  repeat' (first | simp -implicitDefEqProofs only [zG1,zG2,zG3,zG4,zG5,zG6,zG7,eq_self,resV,rval,X.val,binv,fillL,setR,↓reduceIte,Nat.reduceEqDiff,Nat.reduceAdd,Nat.reduceMul,Nat.reduceLeDiff,Nat.reduceLT,Nat.reduceSub,reduceCtorEq,zGq] | ((with_reducible refine rows_intro (fun _ hb => ?_)); try simp only [set_none, ne_eq] at hb) | ((with_reducible refine new_intro (fun _ hb => ?_)); try simp only [set_none, ne_eq] at hb) | (with_reducible refine draw_same ?_) | ((with_reducible refine gd_split ?_ (fun _ => ?_) (fun _ => ?_)); exact rfl) | ((with_reducible refine td_split ?_ (fun _ => ?_) (fun _ => ?_)); exact rfl) | (with_reducible refine c_split (fun _ => ?_) (fun _ => ?_)))
  refine for_rule xs.length (fun k fr C => C = H ∧ (∀ i, i < k → xs[i]? = ys[i]?) ∧ fr 0 = .slice A xs.length ca ∧ fr 1 = .slice B ys.length cb ∧ fr 5 = .int .i64 k) ⟨rfl, fun i hi => by omega, rfl, rfl, rfl⟩ ?_ ?_
  · rintro k fr C hk ⟨rfl, he, f0, f1, f5⟩ N hN
    have hk' : k < ys.length := by omega
    have g0 := lt_dec hk
    have g1 := rng hk
    have g2 := rng hk'
    have g3 := up1 hk (by omega)
    have q1 := hx.bool hk
    have q2 := hy.bool hk'
    have q3 := hx.bools_is hk
    have q4 := hy.bools_is hk'
    by_cases he' : xs[k] = ys[k]
    · have d1 : (xs[k] != ys[k]) = false := by simp [he']
      repeat' (first | simp -implicitDefEqProofs only [zG1,zG2,zG3,zG4,zG5,zG6,zG7,eq_self,resV,rval,X.val,binv,fillL,setR,↓reduceIte,Nat.reduceEqDiff,Nat.reduceAdd,Nat.reduceMul,Nat.reduceLeDiff,Nat.reduceLT,Nat.reduceSub,reduceCtorEq,zGq, f0, f1, f5, g0, g1, g2, g3, q1, q2, q3, q4, d1, Nat.mul_one] | ((with_reducible refine rows_intro (fun _ hb => ?_)); try simp only [set_none, ne_eq] at hb) | ((with_reducible refine new_intro (fun _ hb => ?_)); try simp only [set_none, ne_eq] at hb) | (with_reducible refine draw_same ?_) | ((with_reducible refine gd_split ?_ (fun _ => ?_) (fun _ => ?_)); exact rfl) | ((with_reducible refine td_split ?_ (fun _ => ?_) (fun _ => ?_)); exact rfl) | (with_reducible refine c_split (fun _ => ?_) (fun _ => ?_)))
      refine hN _ _ _ (.refl _) ⟨rfl, fun i hi => ?_, (by first | rfl | (simp only [put_at, ↓reduceIte, Nat.reduceEqDiff]; first | done | rfl | assumption) | simp [put_at, *]), (by first | rfl | (simp only [put_at, ↓reduceIte, Nat.reduceEqDiff]; first | done | rfl | assumption) | simp [put_at, *]), (by first | rfl | (simp only [put_at, ↓reduceIte, Nat.reduceEqDiff]; first | done | rfl | assumption) | simp [put_at, *])⟩
      rcases Nat.lt_succ_iff_lt_or_eq.1 hi with hi | rfl
      · exact he i hi
      · rw [List.getElem?_eq_getElem hk, List.getElem?_eq_getElem hk', he']
    · have d1 : (xs[k] != ys[k]) = true := by simp [he']
      repeat' (first | simp -implicitDefEqProofs only [zG1,zG2,zG3,zG4,zG5,zG6,zG7,eq_self,resV,rval,X.val,binv,fillL,setR,↓reduceIte,Nat.reduceEqDiff,Nat.reduceAdd,Nat.reduceMul,Nat.reduceLeDiff,Nat.reduceLT,Nat.reduceSub,reduceCtorEq,zGq, f0, f1, f5, g0, g1, g2, g3, q1, q2, q3, q4, d1, Nat.mul_one] | ((with_reducible refine rows_intro (fun _ hb => ?_)); try simp only [set_none, ne_eq] at hb) | ((with_reducible refine new_intro (fun _ hb => ?_)); try simp only [set_none, ne_eq] at hb) | (with_reducible refine draw_same ?_) | ((with_reducible refine gd_split ?_ (fun _ => ?_) (fun _ => ?_)); exact rfl) | ((with_reducible refine td_split ?_ (fun _ => ?_) (fun _ => ?_)); exact rfl) | (with_reducible refine c_split (fun _ => ?_) (fun _ => ?_)))
      refine ret_same (kb h (decide_eq_false ?_).symm)
      rintro rfl
      exact he' rfl
  · rintro fr C ⟨rfl, he, f0, f1, f5⟩ N
    have g0 : decide ((xs.length : Int) < (xs.length : Int)) = false := by simp
    have g1 : ((xs.length : Int) == (ys.length : Int)) = true := by simp; omega
    repeat' (first | simp -implicitDefEqProofs only [zG1,zG2,zG3,zG4,zG5,zG6,zG7,eq_self,resV,rval,X.val,binv,fillL,setR,↓reduceIte,Nat.reduceEqDiff,Nat.reduceAdd,Nat.reduceMul,Nat.reduceLeDiff,Nat.reduceLT,Nat.reduceSub,reduceCtorEq,zGq, f0, f1, f5, g0, g1] | ((with_reducible refine rows_intro (fun _ hb => ?_)); try simp only [set_none, ne_eq] at hb) | ((with_reducible refine new_intro (fun _ hb => ?_)); try simp only [set_none, ne_eq] at hb) | (with_reducible refine draw_same ?_) | ((with_reducible refine gd_split ?_ (fun _ => ?_) (fun _ => ?_)); exact rfl) | ((with_reducible refine td_split ?_ (fun _ => ?_) (fun _ => ?_)); exact rfl) | (with_reducible refine c_split (fun _ => ?_) (fun _ => ?_)))
    refine ret_same (kb h (decide_eq_true ?_).symm)
    apply List.ext_getElem?
    intro i
    by_cases hi : i < xs.length
    · exact he i hi
    · rw [List.getElem?_eq_none (by omega), List.getElem?_eq_none (by omega)]
theorem l32Round_ok (A : Option Addr) (c : Nat) (qs : List Qd) (hv : codeValid qs = true) (hx : Fl H A (qcells qs)) (C : AHeap) (hle : AHeap.le H C) (b cb n : Nat) (bs : List Nat) (hR : Rs C 39 4 1 (.slice (some ⟨b, 0, none⟩) qs.length cb) (rowsM (iterL qs n)) bs) (hn : New H bs)
    (h : ∀ C' l' b' bs', AHeap.le H C' → New H bs' → Rs C' 39 4 1 (.slice (some ⟨b, 0, none⟩) qs.length cb) (rowsM l') bs' → Lv qs (iterL qs n) l' 0 b' → K (.bool b') C') :
    ACalls Tryz.prog w0 104 [.slice A qs.length c, .slice (some ⟨b, 0, none⟩) qs.length cb] C K := by
  have hc := code_at hv
  have e1 : IntKind.i64.wrap ((qs.length : Int) - 1) = (qs.length : Int) - 1 := wrap_i64 (by omega) (by omega)
  refine acalls_of_sx mix Tryz.func104 of104 (by simp [ir104]) ?_; rw [ir104]; (try delta qT qI qC qO qM qG)
  repeat' (first | simp -implicitDefEqProofs only [zG1,zG2,zG3,zG4,zG5,zG6,zG7,eq_self,resV,rval,X.val,binv,fillL,setR,↓reduceIte,Nat.reduceEqDiff,Nat.reduceAdd,Nat.reduceMul,Nat.reduceLeDiff,Nat.reduceLT,Nat.reduceSub,reduceCtorEq,zGq, e1] | ((with_reducible refine rows_intro (fun _ hb => ?_)); try simp only [set_none, ne_eq] at hb) | ((with_reducible refine new_intro (fun _ hb => ?_)); try simp only [set_none, ne_eq] at hb) | (with_reducible refine draw_same ?_) | ((with_reducible refine gd_split ?_ (fun _ => ?_) (fun _ => ?_)); exact rfl) | ((with_reducible refine td_split ?_ (fun _ => ?_) (fun _ => ?_)); exact rfl) | (with_reducible refine c_split (fun _ => ?_) (fun _ => ?_)))
  refine for_rule qs.length (fun k fr C => ∃ (l : List Nat) (ch : Bool) (bs : List Nat), AHeap.le H C ∧ New H bs ∧ Rs C 39 4 1 (.slice (some ⟨b, 0, none⟩) qs.length cb) (rowsM l) bs ∧ Lv qs (iterL qs n) l (qs.length - k) ch ∧
    fr 0 = .slice A qs.length c ∧ fr 1 = .slice (some ⟨b, 0, none⟩) qs.length cb ∧ fr 5 = .bool ch ∧ fr 6 = .int .i64 ((qs.length : Int) - 1 - k))
    ⟨iterL qs n, false, bs, hle, hn, hR, Lv.start hv, (by first | rfl | (simp only [put_at, ↓reduceIte, Nat.reduceEqDiff]; first | done | rfl | assumption) | simp [put_at, *]), (by first | rfl | (simp only [put_at, ↓reduceIte, Nat.reduceEqDiff]; first | done | rfl | assumption) | simp [put_at, *]), (by first | rfl | (simp only [put_at, ↓reduceIte, Nat.reduceEqDiff]; first | done | rfl | assumption) | simp [put_at, *]), by simp [put_at]⟩ ?_ ?_
  · rintro k fr C hk ⟨l, ch, bs0, hle, hn0, hR0, hL, f0, f1, f5, f6⟩ N hN
    obtain ⟨bs, hs, hne, hR⟩ := hR0.tight
    have hn : New H bs := fun y hy => hn0 y (hs y hy)
    obtain ⟨a, ha⟩ : ∃ a, qs.length - k = a + 1 := ⟨qs.length - k - 1, by omega⟩
    rw [ha] at hL
    have hea : (qs.length : Int) - 1 - k = (a : Int) := by omega
    rw [hea] at f6
    have han : a < qs.length := by omega
    have hal : a < l.length := by rw [hL.len]; exact han
    have g0 : decide ((a : Int) ≥ 0) = true := by simp
    have g1 := rng han
    have g2 : IntKind.i64.wrap ((a : Int) - 1) = (a : Int) - 1 := wrap_i64 (by omega) (by omega)
    have p0 := (hx.le hle).quad han
    have hqv := valid_more (hc.2.2 a han) (show (qs.length : Int) ≤ 600 by omega)
    have hu : upd qs l a = beforeM qs[a] (behindM qs l a) := by simp [upd, han]
    have e6 : qs.length - (k + 1) = a := by omega
    have e5 : (a : Int) - 1 = (qs.length : Int) - 1 - ((k + 1 : Nat) : Int) := by omega
    repeat' (first | simp -implicitDefEqProofs only [zG1,zG2,zG3,zG4,zG5,zG6,zG7,eq_self,resV,rval,X.val,binv,fillL,setR,↓reduceIte,Nat.reduceEqDiff,Nat.reduceAdd,Nat.reduceMul,Nat.reduceLeDiff,Nat.reduceLT,Nat.reduceSub,reduceCtorEq,zGq, f0, f1, f5, f6, g0, g1, p0, Nat.add_zero] | ((with_reducible refine rows_intro (fun _ hb => ?_)); try simp only [set_none, ne_eq] at hb) | ((with_reducible refine new_intro (fun _ hb => ?_)); try simp only [set_none, ne_eq] at hb) | (with_reducible refine draw_same ?_) | ((with_reducible refine gd_split ?_ (fun _ => ?_) (fun _ => ?_)); exact rfl) | ((with_reducible refine td_split ?_ (fun _ => ?_) (fun _ => ?_)); exact rfl) | (with_reducible refine c_split (fun _ => ?_) (fun _ => ?_)))
    refine l32After_ok _ _ _ A c qs hv (hx.le hle) _ cb l hL.len bs hR a han (fun v1 C1 ib1 l1 n1 w1 => ?_)
    obtain ⟨A1, c1, rfl, fl1⟩ := w1.fl
    repeat' (first | simp -implicitDefEqProofs only [zG1,zG2,zG3,zG4,zG5,zG6,zG7,eq_self,resV,rval,X.val,binv,fillL,setR,↓reduceIte,Nat.reduceEqDiff,Nat.reduceAdd,Nat.reduceMul,Nat.reduceLeDiff,Nat.reduceLT,Nat.reduceSub,reduceCtorEq,zGq, l1] | ((with_reducible refine rows_intro (fun _ hb => ?_)); try simp only [set_none, ne_eq] at hb) | ((with_reducible refine new_intro (fun _ hb => ?_)); try simp only [set_none, ne_eq] at hb) | (with_reducible refine draw_same ?_) | ((with_reducible refine gd_split ?_ (fun _ => ?_) (fun _ => ?_)); exact rfl) | ((with_reducible refine td_split ?_ (fun _ => ?_) (fun _ => ?_)); exact rfl) | (with_reducible refine c_split (fun _ => ?_) (fun _ => ?_)))
    refine l32Before_ok _ _ _ qs[a] hqv A1 c1 _ fl1 (fun v2 C2 ib2 l2 n2 w2 => ?_)
    have l12 := l1.trans l2
    rw [← hu] at w2
    obtain ⟨A2, c2, rfl, fl2⟩ := w2.fl
    have hR2 := hR.trans l12
    obtain ⟨q4, A', n', c', q5, fl, hlen⟩ := hR2.row (i := a) (by rw [rowsM_len]; omega)
    rw [rowsM_at (by omega)] at fl hlen
    rw [bools_len, flagsM_len, Nat.mul_one] at hlen
    subst hlen
    rw [adr_lit, Nat.zero_add] at q5
    repeat' (first | simp -implicitDefEqProofs only [zG1,zG2,zG3,zG4,zG5,zG6,zG7,eq_self,resV,rval,X.val,binv,fillL,setR,↓reduceIte,Nat.reduceEqDiff,Nat.reduceAdd,Nat.reduceMul,Nat.reduceLeDiff,Nat.reduceLT,Nat.reduceSub,reduceCtorEq,zGq, l12, f0, f1, f5, f6, g1, q5, adr_lit, Nat.zero_add, Nat.mul_one] | ((with_reducible refine rows_intro (fun _ hb => ?_)); try simp only [set_none, ne_eq] at hb) | ((with_reducible refine new_intro (fun _ hb => ?_)); try simp only [set_none, ne_eq] at hb) | (with_reducible refine draw_same ?_) | ((with_reducible refine gd_split ?_ (fun _ => ?_) (fun _ => ?_)); exact rfl) | ((with_reducible refine td_split ?_ (fun _ => ?_) (fun _ => ?_)); exact rfl) | (with_reducible refine c_split (fun _ => ?_) (fun _ => ?_)))
    have e12 : (12 : Nat) = (flagsM (upd qs l a)).length := (flagsM_len _).symm
    have e12' : (Value.slice A' 12 c') = .slice A' (flagsM (lvAt l a)).length c' := by rw [flagsM_len]
    have e12'' : (Value.slice A2 12 c2) = .slice A2 (flagsM (upd qs l a)).length c2 := by rw [flagsM_len]
    rw [e12', e12'']
    refine l32Same_ok _ _ _ A2 A' c2 c' _ _ fl2 fl (by rw [flagsM_len, flagsM_len]) (by rw [flagsM_len]; omega) ?_
    rw [← e12'']
    by_cases hxa : upd qs l a = lvAt l a
    · have d1 : decide (flagsM (upd qs l a) = flagsM (lvAt l a)) = true := by rw [hxa]; simp
      repeat' (first | simp -implicitDefEqProofs only [zG1,zG2,zG3,zG4,zG5,zG6,zG7,eq_self,resV,rval,X.val,binv,fillL,setR,↓reduceIte,Nat.reduceEqDiff,Nat.reduceAdd,Nat.reduceMul,Nat.reduceLeDiff,Nat.reduceLT,Nat.reduceSub,reduceCtorEq,zGq, f0, f1, f5, f6, g2, d1] | ((with_reducible refine rows_intro (fun _ hb => ?_)); try simp only [set_none, ne_eq] at hb) | ((with_reducible refine new_intro (fun _ hb => ?_)); try simp only [set_none, ne_eq] at hb) | (with_reducible refine draw_same ?_) | ((with_reducible refine gd_split ?_ (fun _ => ?_) (fun _ => ?_)); exact rfl) | ((with_reducible refine td_split ?_ (fun _ => ?_) (fun _ => ?_)); exact rfl) | (with_reducible refine c_split (fun _ => ?_) (fun _ => ?_)))
      exact hN _ _ _ (.refl _) ⟨l, ch, bs, hle.trans l12, hn, hR2, by rw [e6]; exact hL.keep hxa, (by first | rfl | (simp only [put_at, ↓reduceIte, Nat.reduceEqDiff]; first | done | rfl | assumption) | simp [put_at, *]), (by first | rfl | (simp only [put_at, ↓reduceIte, Nat.reduceEqDiff]; first | done | rfl | assumption) | simp [put_at, *]), (by first | rfl | (simp only [put_at, ↓reduceIte, Nat.reduceEqDiff]; first | done | rfl | assumption) | simp [put_at, *]), by rw [← e5]; exact (by first | rfl | (simp only [put_at, ↓reduceIte, Nat.reduceEqDiff]; first | done | rfl | assumption) | simp [put_at, *])⟩
    · have d1 : decide (flagsM (upd qs l a) = flagsM (lvAt l a)) = false := by
        simp only [decide_eq_false_iff_not]
        exact fun e => hxa (flagsM_inj (upd_lt hv hL.small_ a) (hL.small_ a) e)
      repeat' (first | simp -implicitDefEqProofs only [zG1,zG2,zG3,zG4,zG5,zG6,zG7,eq_self,resV,rval,X.val,binv,fillL,setR,↓reduceIte,Nat.reduceEqDiff,Nat.reduceAdd,Nat.reduceMul,Nat.reduceLeDiff,Nat.reduceLT,Nat.reduceSub,reduceCtorEq,zGq, f0, f1, f5, f6, g1, g2, d1, adr_lit, Nat.zero_add, Nat.mul_one] | ((with_reducible refine rows_intro (fun _ hb => ?_)); try simp only [set_none, ne_eq] at hb) | ((with_reducible refine new_intro (fun _ hb => ?_)); try simp only [set_none, ne_eq] at hb) | (with_reducible refine draw_same ?_) | ((with_reducible refine gd_split ?_ (fun _ => ?_) (fun _ => ?_)); exact rfl) | ((with_reducible refine td_split ?_ (fun _ => ?_) (fun _ => ?_)); exact rfl) | (with_reducible refine c_split (fun _ => ?_) (fun _ => ?_)))
      refine hR2.st (by rw [rowsM_len]; omega) w2 (fun y hy hm => ?_) (fun C3 hc3 hR3 => ?_)
      · exact hne y hm (l1.none (n2 y hy))
      · rw [rowsM_set] at hR3
        repeat' (first | simp -implicitDefEqProofs only [zG1,zG2,zG3,zG4,zG5,zG6,zG7,eq_self,resV,rval,X.val,binv,fillL,setR,↓reduceIte,Nat.reduceEqDiff,Nat.reduceAdd,Nat.reduceMul,Nat.reduceLeDiff,Nat.reduceLT,Nat.reduceSub,reduceCtorEq,zGq, f0, f1, f5, f6, g2] | ((with_reducible refine rows_intro (fun _ hb => ?_)); try simp only [set_none, ne_eq] at hb) | ((with_reducible refine new_intro (fun _ hb => ?_)); try simp only [set_none, ne_eq] at hb) | (with_reducible refine draw_same ?_) | ((with_reducible refine gd_split ?_ (fun _ => ?_) (fun _ => ?_)); exact rfl) | ((with_reducible refine td_split ?_ (fun _ => ?_) (fun _ => ?_)); exact rfl) | (with_reducible refine c_split (fun _ => ?_) (fun _ => ?_)))
        exact hN _ _ _ (.refl _) ⟨_, true, bs ++ ib2, hc3.keep (hle.trans l12) hn, hn.app (n2.le (hle.trans l1)), hR3, by rw [e6]; exact hL.put hv han hxa, (by first | rfl | (simp only [put_at, ↓reduceIte, Nat.reduceEqDiff]; first | done | rfl | assumption) | simp [put_at, *]), (by first | rfl | (simp only [put_at, ↓reduceIte, Nat.reduceEqDiff]; first | done | rfl | assumption) | simp [put_at, *]), (by first | rfl | (simp only [put_at, ↓reduceIte, Nat.reduceEqDiff]; first | done | rfl | assumption) | simp [put_at, *]), by rw [← e5]; exact (by first | rfl | (simp only [put_at, ↓reduceIte, Nat.reduceEqDiff]; first | done | rfl | assumption) | simp [put_at, *])⟩
  · rintro fr C ⟨l, ch, bs, hle, hn, hR, hL, f0, f1, f5, f6⟩ N
    have g0 : decide ((qs.length : Int) - 1 - ((qs.length : Nat) : Int) ≥ 0) = false := by simp; omega
    rw [Nat.sub_self] at hL
    repeat' (first | simp -implicitDefEqProofs only [zG1,zG2,zG3,zG4,zG5,zG6,zG7,eq_self,resV,rval,X.val,binv,fillL,setR,↓reduceIte,Nat.reduceEqDiff,Nat.reduceAdd,Nat.reduceMul,Nat.reduceLeDiff,Nat.reduceLT,Nat.reduceSub,reduceCtorEq,zGq, f0, f1, f5, f6, g0] | ((with_reducible refine rows_intro (fun _ hb => ?_)); try simp only [set_none, ne_eq] at hb) | ((with_reducible refine new_intro (fun _ hb => ?_)); try simp only [set_none, ne_eq] at hb) | (with_reducible refine draw_same ?_) | ((with_reducible refine gd_split ?_ (fun _ => ?_) (fun _ => ?_)); exact rfl) | ((with_reducible refine td_split ?_ (fun _ => ?_) (fun _ => ?_)); exact rfl) | (with_reducible refine c_split (fun _ => ?_) (fun _ => ?_)))
    exact ret_same (h _ _ _ _ hle hn hR hL)
theorem liveOfS_ok (A : Option Addr) (c : Nat) (qs : List Qd) (hx : Fl H A (qcells qs)) (h : ∀ v C bs, AHeap.le H C → New H bs → Rs C 39 4 1 v (((liveOf qs).map flagsM).map bools) bs → K v C) :
    ACalls Tryz.prog w0 89 [.slice A qs.length c] H K := by
  cases hv : codeValid qs with
  | false =>
    have e : liveOf qs = [] := by simp [liveOf, hv]
    rw [e, ← rowsM_eq] at h
    refine acalls_of_sx mix Tryz.func89 of89 (by simp [ir89]) ?_; rw [ir89]; (try delta qT qI qC qO qM qG)
    repeat' (first | simp -implicitDefEqProofs only [zG1,zG2,zG3,zG4,zG5,zG6,zG7,eq_self,resV,rval,X.val,binv,fillL,setR,↓reduceIte,Nat.reduceEqDiff,Nat.reduceAdd,Nat.reduceMul,Nat.reduceLeDiff,Nat.reduceLT,Nat.reduceSub,reduceCtorEq,zGq, hv] | ((with_reducible refine rows_intro (fun _ hb => ?_)); try simp only [set_none, ne_eq] at hb) | ((with_reducible refine new_intro (fun _ hb => ?_)); try simp only [set_none, ne_eq] at hb) | (with_reducible refine draw_same ?_) | ((with_reducible refine gd_split ?_ (fun _ => ?_) (fun _ => ?_)); exact rfl) | ((with_reducible refine td_split ?_ (fun _ => ?_) (fun _ => ?_)); exact rfl) | (with_reducible refine c_split (fun _ => ?_) (fun _ => ?_)) | (with_reducible refine codeValidS_ok _ _ _ _ _ _ (hx.fresh ‹H _ = none› _) ?_))
    exact ret_same (h _ _ _ ((AHeap.le.refl H).fresh hb _) (New.one hb) (Rs.empty (Rw.mk (Kn.same _ _ _) rfl (Nat.le_refl _) (by simp [maxLen])) _ _))
  | true =>
    have hc := code_at hv
    have e : liveOf qs = liveL qs := by simp [liveOf, hv]
    rw [e, ← rowsM_eq] at h
    refine acalls_of_sx mix Tryz.func89 of89 (by simp [ir89]) ?_; rw [ir89]; (try delta qT qI qC qO qM qG)
    repeat' (first | simp -implicitDefEqProofs only [zG1,zG2,zG3,zG4,zG5,zG6,zG7,eq_self,resV,rval,X.val,binv,fillL,setR,↓reduceIte,Nat.reduceEqDiff,Nat.reduceAdd,Nat.reduceMul,Nat.reduceLeDiff,Nat.reduceLT,Nat.reduceSub,reduceCtorEq,zGq, hv] | ((with_reducible refine rows_intro (fun _ hb => ?_)); try simp only [set_none, ne_eq] at hb) | ((with_reducible refine new_intro (fun _ hb => ?_)); try simp only [set_none, ne_eq] at hb) | (with_reducible refine draw_same ?_) | ((with_reducible refine gd_split ?_ (fun _ => ?_) (fun _ => ?_)); exact rfl) | ((with_reducible refine td_split ?_ (fun _ => ?_) (fun _ => ?_)); exact rfl) | (with_reducible refine c_split (fun _ => ?_) (fun _ => ?_)) | (with_reducible refine codeValidS_ok _ _ _ _ _ _ (hx.fresh ‹H _ = none› _) ?_))
    rename_i b0
    have R0 : Rs (H.set b0 ⟨[], true, 39, 0⟩) 39 4 1 (.slice (some ⟨b0, 0, none⟩) 0 0) (rowsM []) [b0] := Rs.empty (Rw.mk (Kn.same _ _ _) rfl (Nat.le_refl _) (by simp [maxLen])) _ _
    refine for_rule qs.length (fun k fr C => ∃ (v : Value) (bs : List Nat), AHeap.le H C ∧ New H bs ∧ Rs C 39 4 1 v (rowsM (List.replicate k 0)) bs ∧ fr 0 = .slice A qs.length c ∧ fr 3 = v ∧ fr 4 = .int .i64 k)
      ⟨_, [b0], (AHeap.le.refl H).fresh hb _, New.one hb, R0, (by first | rfl | (simp only [put_at, ↓reduceIte, Nat.reduceEqDiff]; first | done | rfl | assumption) | simp [put_at, *]), (by first | rfl | (simp only [put_at, ↓reduceIte, Nat.reduceEqDiff]; first | done | rfl | assumption) | simp [put_at, *]), (by first | rfl | (simp only [put_at, ↓reduceIte, Nat.reduceEqDiff]; first | done | rfl | assumption) | simp [put_at, *])⟩ ?_ ?_
    · rintro k fr C hk ⟨v, bs0, hle, hn0, hR0, f0, f3, f4⟩ N hN
      obtain ⟨bs, hs, hne, hR⟩ := hR0.tight
      have hn : New H bs := fun y hy => hn0 y (hs y hy)
      have g0 := lt_dec hk
      have g2 := up1 hk (by omega)
      obtain ⟨A3, c3, rfl⟩ := hR.slice
      repeat' (first | simp -implicitDefEqProofs only [zG1,zG2,zG3,zG4,zG5,zG6,zG7,eq_self,resV,rval,X.val,binv,fillL,setR,↓reduceIte,Nat.reduceEqDiff,Nat.reduceAdd,Nat.reduceMul,Nat.reduceLeDiff,Nat.reduceLT,Nat.reduceSub,reduceCtorEq,zGq, f0, f3, f4, g0, g2] | ((with_reducible refine rows_intro (fun _ hb => ?_)); try simp only [set_none, ne_eq] at hb) | ((with_reducible refine new_intro (fun _ hb => ?_)); try simp only [set_none, ne_eq] at hb) | (with_reducible refine draw_same ?_) | ((with_reducible refine gd_split ?_ (fun _ => ?_) (fun _ => ?_)); exact rfl) | ((with_reducible refine td_split ?_ (fun _ => ?_) (fun _ => ?_)); exact rfl) | (with_reducible refine c_split (fun _ => ?_) (fun _ => ?_)) | (with_reducible refine mkB12 (fun b hb => ?_)))
      rename_i hb1 b2
      have l1 := (AHeap.le.refl C).fresh hb1 ⟨bools (flagsM 0), true, 4, 12 * 1⟩
      have l2 := le_fresh0 l1 hb.2 ⟨[.slice (some ⟨b, 0, none⟩) 12 12], true, 39, 1⟩
      have w1 : Rw ((C.set b ⟨bools (flagsM 0), true, 4, 12 * 1⟩).set b2 ⟨[.slice (some ⟨b, 0, none⟩) 12 12], true, 39, 1⟩) 4 1 (.slice (some ⟨b, 0, none⟩) 12 12) 12 (bools (flagsM 0)) [b] :=
        Rw.mk ((Kn.same _ _ _).set (fun e => hb.1 e.symm) _) (by rw [bools_len, flagsM_len]) (Nat.le_refl _) (by simp [maxLen])
      refine (hR.trans l2).app w1 (fun y hy hm => ?_) rfl (Fl.blk _ _ _ _ fun _ _ h => h) (by rw [rowsM_len]; simp [maxLen]; omega) (by rw [rowsM_len]; simp; omega) (fun v' C' bs' hc' hn' hR' => ?_)
      · simp at hy; subst hy; exact hne _ hm hb1
      · rw [show rowsM (List.replicate k 0) ++ [bools (flagsM 0)] = rowsM (List.replicate (k + 1) 0) by rw [List.replicate_succ', rowsM_snoc]] at hR'
        repeat' (first | simp -implicitDefEqProofs only [zG1,zG2,zG3,zG4,zG5,zG6,zG7,eq_self,resV,rval,X.val,binv,fillL,setR,↓reduceIte,Nat.reduceEqDiff,Nat.reduceAdd,Nat.reduceMul,Nat.reduceLeDiff,Nat.reduceLT,Nat.reduceSub,reduceCtorEq,zGq, f0, f3, f4, g2] | ((with_reducible refine rows_intro (fun _ hb => ?_)); try simp only [set_none, ne_eq] at hb) | ((with_reducible refine new_intro (fun _ hb => ?_)); try simp only [set_none, ne_eq] at hb) | (with_reducible refine draw_same ?_) | ((with_reducible refine gd_split ?_ (fun _ => ?_) (fun _ => ?_)); exact rfl) | ((with_reducible refine td_split ?_ (fun _ => ?_) (fun _ => ?_)); exact rfl) | (with_reducible refine c_split (fun _ => ?_) (fun _ => ?_)))
        refine hN _ _ _ (.refl _) ⟨v', bs', hc'.keep (hle.trans l2) hn, fun y hy => ?_, hR', (by first | rfl | (simp only [put_at, ↓reduceIte, Nat.reduceEqDiff]; first | done | rfl | assumption) | simp [put_at, *]), (by first | rfl | (simp only [put_at, ↓reduceIte, Nat.reduceEqDiff]; first | done | rfl | assumption) | simp [put_at, *]), (by first | rfl | (simp only [put_at, ↓reduceIte, Nat.reduceEqDiff]; first | done | rfl | assumption) | simp [put_at, *])⟩
        rcases hn' y hy with hm | hm | hm
        · exact hn y hm
        · simp at hm; subst hm; exact hle.none hb1
        · exact (hle.trans l2).none hm
    · rintro fr C ⟨v, bs0, hle, hn0, hR0, f0, f3, f4⟩ N
      have g0 : decide ((qs.length : Int) < (qs.length : Int)) = false := by simp
      obtain ⟨A3, c3, rfl⟩ := hR0.slice
      repeat' (first | simp -implicitDefEqProofs only [zG1,zG2,zG3,zG4,zG5,zG6,zG7,eq_self,resV,rval,X.val,binv,fillL,setR,↓reduceIte,Nat.reduceEqDiff,Nat.reduceAdd,Nat.reduceMul,Nat.reduceLeDiff,Nat.reduceLT,Nat.reduceSub,reduceCtorEq,zGq, f0, f3, f4, g0] | ((with_reducible refine rows_intro (fun _ hb => ?_)); try simp only [set_none, ne_eq] at hb) | ((with_reducible refine new_intro (fun _ hb => ?_)); try simp only [set_none, ne_eq] at hb) | (with_reducible refine draw_same ?_) | ((with_reducible refine gd_split ?_ (fun _ => ?_) (fun _ => ?_)); exact rfl) | ((with_reducible refine td_split ?_ (fun _ => ?_) (fun _ => ?_)); exact rfl) | (with_reducible refine c_split (fun _ => ?_) (fun _ => ?_)))
      obtain ⟨b, rfl⟩ : ∃ b, A3 = some ⟨b, 0, none⟩ := by
        obtain ⟨vs, ob, bss, w, _⟩ := hR0
        obtain ⟨b, cap, e, _⟩ := w.open_ (by rw [rowsM_len]; simp; omega)
        simp only [Value.slice.injEq] at e
        exact ⟨b, e.1⟩
      have e0 : (rowsM (List.replicate qs.length 0)).length = qs.length := by rw [rowsM_len]; simp
      rw [e0] at hR0 f3
      refine while_rule (fun m fr C => ∃ (n : Nat) (bs : List Nat), m = room (iterL qs n) ∧ AHeap.le H C ∧ New H bs ∧ Rs C 39 4 1 (.slice (some ⟨b, 0, none⟩) qs.length c3) (rowsM (iterL qs n)) bs ∧ fr 0 = .slice A qs.length c ∧ fr 3 = .slice (some ⟨b, 0, none⟩) qs.length c3) (room (iterL qs 0))
        ⟨0, bs0, rfl, hle, hn0, hR0, (by first | rfl | (simp only [put_at, ↓reduceIte, Nat.reduceEqDiff]; first | done | rfl | assumption) | simp [put_at, *]), (by first | rfl | (simp only [put_at, ↓reduceIte, Nat.reduceEqDiff]; first | done | rfl | assumption) | simp [put_at, *])⟩ ?_
      rintro m fr C ⟨n, bs, rfl, hle, hn, hR, f0, f3⟩ N hN
      repeat' (first | simp -implicitDefEqProofs only [zG1,zG2,zG3,zG4,zG5,zG6,zG7,eq_self,resV,rval,X.val,binv,fillL,setR,↓reduceIte,Nat.reduceEqDiff,Nat.reduceAdd,Nat.reduceMul,Nat.reduceLeDiff,Nat.reduceLT,Nat.reduceSub,reduceCtorEq,zGq, f0, f3] | ((with_reducible refine rows_intro (fun _ hb => ?_)); try simp only [set_none, ne_eq] at hb) | ((with_reducible refine new_intro (fun _ hb => ?_)); try simp only [set_none, ne_eq] at hb) | (with_reducible refine draw_same ?_) | ((with_reducible refine gd_split ?_ (fun _ => ?_) (fun _ => ?_)); exact rfl) | ((with_reducible refine td_split ?_ (fun _ => ?_) (fun _ => ?_)); exact rfl) | (with_reducible refine c_split (fun _ => ?_) (fun _ => ?_)))
      refine l32Round_ok _ H _ A c qs hv hx C hle b c3 n bs hR hn (fun C2 l2 ch bs2 h2 n2 R2 hL => ?_)
      cases ch with
      | true =>
        repeat' (first | simp -implicitDefEqProofs only [zG1,zG2,zG3,zG4,zG5,zG6,zG7,eq_self,resV,rval,X.val,binv,fillL,setR,↓reduceIte,Nat.reduceEqDiff,Nat.reduceAdd,Nat.reduceMul,Nat.reduceLeDiff,Nat.reduceLT,Nat.reduceSub,reduceCtorEq,zGq, f0, f3] | ((with_reducible refine rows_intro (fun _ hb => ?_)); try simp only [set_none, ne_eq] at hb) | ((with_reducible refine new_intro (fun _ hb => ?_)); try simp only [set_none, ne_eq] at hb) | (with_reducible refine draw_same ?_) | ((with_reducible refine gd_split ?_ (fun _ => ?_) (fun _ => ?_)); exact rfl) | ((with_reducible refine td_split ?_ (fun _ => ?_) (fun _ => ?_)); exact rfl) | (with_reducible refine c_split (fun _ => ?_) (fun _ => ?_)))
        have e2 := hL.next
        exact hN _ _ _ _ (by rw [← e2]; exact hL.less rfl) (.refl _) ⟨n + 1, bs2, rfl, h2, n2, by rw [← e2]; exact R2, (by first | rfl | (simp only [put_at, ↓reduceIte, Nat.reduceEqDiff]; first | done | rfl | assumption) | simp [put_at, *]), (by first | rfl | (simp only [put_at, ↓reduceIte, Nat.reduceEqDiff]; first | done | rfl | assumption) | simp [put_at, *])⟩
      | false =>
        repeat' (first | simp -implicitDefEqProofs only [zG1,zG2,zG3,zG4,zG5,zG6,zG7,eq_self,resV,rval,X.val,binv,fillL,setR,↓reduceIte,Nat.reduceEqDiff,Nat.reduceAdd,Nat.reduceMul,Nat.reduceLeDiff,Nat.reduceLT,Nat.reduceSub,reduceCtorEq,zGq, f0, f3] | ((with_reducible refine rows_intro (fun _ hb => ?_)); try simp only [set_none, ne_eq] at hb) | ((with_reducible refine new_intro (fun _ hb => ?_)); try simp only [set_none, ne_eq] at hb) | (with_reducible refine draw_same ?_) | ((with_reducible refine gd_split ?_ (fun _ => ?_) (fun _ => ?_)); exact rfl) | ((with_reducible refine td_split ?_ (fun _ => ?_) (fun _ => ?_)); exact rfl) | (with_reducible refine c_split (fun _ => ?_) (fun _ => ?_)))
        have e2 := hL.fix
        refine ret_same (h _ _ bs2 h2 n2 ?_)
        rw [← e2]; exact R2
end Go.Proofs.YtodhkodhndbpmaaGreat
namespace Go.Proofs.YtodhkodhndbpmaaGreat
set_option linter.all false
open Go Go.RowKit
set_option maxRecDepth 100000
variable (w0 : World) (H : AHeap) (K : Value → AHeap → Prop)
def isDead (q : Qd) (m : Nat) : Bool := decide (q.op = 1 ∨ q.op = 2 ∨ q.op = 3) && !m.testBit q.dst.toNat
noncomputable def dead (qs : List Qd) (i : Nat) : Bool := isDead (qAt qs i) (behindM qs (liveL qs) i)
theorem dead_eq {qs : List Qd} {i : Nat} (hi : i < qs.length) : dead qs i = isDead qs[i] (behindM qs (liveL qs) i) := by simp [dead, qAt_eq hi]
def jumpQ (i : Nat) : Qd := ⟨4, 0, 0, 0, (i : Int) + 1⟩
noncomputable def deadCode (qs : List Qd) : List Qd := if codeValid qs then (List.range qs.length).map fun i => if dead qs i then jumpQ i else qAt qs i else []
theorem dst_in {q : Qd} {m : Int} (h : quadValid q m = true) (ho : q.op = 1 ∨ q.op = 2 ∨ q.op = 3) : 0 ≤ q.dst ∧ q.dst < 12 := by
  rcases ho with ho | ho | ho <;> simp only [quadValid, ho] at h <;> simp [isReg] at h <;> omega
theorem l35Dead_ok (q : Qd) (hq : quadValid q 600 = true) (A : Option Addr) (c m : Nat) (hx : Fl H A (bools (flagsM m))) (h : K (.bool (isDead q m)) H) : ACalls Tryz.prog w0 90 [q.val, .slice A 12 c] H K := by
  by_cases ho : q.op = 1 ∨ q.op = 2 ∨ q.op = 3
  · obtain ⟨hd0, hd1⟩ := dst_in hq ho
    obtain ⟨r, hr⟩ : ∃ r : Nat, q.dst = (r : Int) := ⟨q.dst.toNat, by omega⟩
    have g1 : (0 ≤ (r : Int) ∧ (r : Int) < ((12 : Nat) : Int)) = True := by simp; omega
    have q1 := hx r _ (by rw [bools, List.getElem?_map, flagsM_at (by omega)]; rfl)
    have q2 := hx.is (i := r) (by rw [bools_len, flagsM_len]; omega)
    have e : isDead q m = !m.testBit r := by simp [isDead, ho, hr]
    rw [e] at h
    have qv : q.val = .agg #[.int .i64 q.op, .int .i64 (r : Int), .int .i64 q.a, .int .i64 q.b, .int .i64 q.n] := by rw [q_val, hr]
    rw [qv]
    rcases ho with ho | ho | ho
    all_goals
      have d1 : (q.op == 1) = decide (q.op = 1) := rfl
      have d2 : (q.op == 2) = decide (q.op = 2) := rfl
      have d3 : (q.op == 3) = decide (q.op = 3) := rfl
      simp only [ho, Int.reduceEq, decide_true, decide_false] at d1 d2 d3
      refine acalls_of_sx mix Tryz.func90 of90 (by simp [ir90]) ?_; rw [ir90]; (try delta qT qI qC qO qM qG)
      repeat' (first | simp -implicitDefEqProofs only [zG1,zG2,zG3,zG4,zG5,zG6,zG7,eq_self,resV,rval,X.val,binv,fillL,setR,↓reduceIte,Nat.reduceEqDiff,Nat.reduceAdd,Nat.reduceMul,Nat.reduceLeDiff,Nat.reduceLT,Nat.reduceSub,reduceCtorEq,zGq, ho, g1, q2, Int.reduceBEq, Int.reduceEq, Nat.mul_one] | ((with_reducible refine rows_intro (fun _ hb => ?_)); try simp only [set_none, ne_eq] at hb) | ((with_reducible refine new_intro (fun _ hb => ?_)); try simp only [set_none, ne_eq] at hb) | (with_reducible refine draw_same ?_) | ((with_reducible refine gd_split ?_ (fun _ => ?_) (fun _ => ?_)); exact rfl) | ((with_reducible refine td_split ?_ (fun _ => ?_) (fun _ => ?_)); exact rfl) | (with_reducible refine c_split (fun _ => ?_) (fun _ => ?_)))
      repeat' (first | simp -implicitDefEqProofs only [zG1,zG2,zG3,zG4,zG5,zG6,zG7,eq_self,resV,rval,X.val,binv,fillL,setR,↓reduceIte,Nat.reduceEqDiff,Nat.reduceAdd,Nat.reduceMul,Nat.reduceLeDiff,Nat.reduceLT,Nat.reduceSub,reduceCtorEq,zGq, ho, g1, q1, q2, hb, Int.reduceBEq, Int.reduceEq, Nat.mul_one] | ((with_reducible refine rows_intro (fun _ hb => ?_)); try simp only [set_none, ne_eq] at hb) | ((with_reducible refine new_intro (fun _ hb => ?_)); try simp only [set_none, ne_eq] at hb) | (with_reducible refine draw_same ?_) | ((with_reducible refine gd_split ?_ (fun _ => ?_) (fun _ => ?_)); exact rfl) | ((with_reducible refine td_split ?_ (fun _ => ?_) (fun _ => ?_)); exact rfl) | (with_reducible refine c_split (fun _ => ?_) (fun _ => ?_)))
      exact ⟨H, (AHeap.le.refl H).fresh ‹_› _, h⟩
  · have e : isDead q m = false := by simp [isDead, ho]
    rw [e] at h
    have d1 : (q.op == 1) = false := by simp; omega
    have d2 : (q.op == 2) = false := by simp; omega
    have d3 : (q.op == 3) = false := by simp; omega
    refine acalls_of_sx mix Tryz.func90 of90 (by simp [ir90]) ?_; rw [ir90]; (try delta qT qI qC qO qM qG)
    repeat' (first | simp -implicitDefEqProofs only [zG1,zG2,zG3,zG4,zG5,zG6,zG7,eq_self,resV,rval,X.val,binv,fillL,setR,↓reduceIte,Nat.reduceEqDiff,Nat.reduceAdd,Nat.reduceMul,Nat.reduceLeDiff,Nat.reduceLT,Nat.reduceSub,reduceCtorEq,zGq, q_val, d1, d2, d3] | ((with_reducible refine rows_intro (fun _ hb => ?_)); try simp only [set_none, ne_eq] at hb) | ((with_reducible refine new_intro (fun _ hb => ?_)); try simp only [set_none, ne_eq] at hb) | (with_reducible refine draw_same ?_) | ((with_reducible refine gd_split ?_ (fun _ => ?_) (fun _ => ?_)); exact rfl) | ((with_reducible refine td_split ?_ (fun _ => ?_) (fun _ => ?_)); exact rfl) | (with_reducible refine c_split (fun _ => ?_) (fun _ => ?_)))
    exact ⟨H, (AHeap.le.refl H).fresh ‹_› _, h⟩
end Go.Proofs.YtodhkodhndbpmaaGreat
namespace Go.Proofs.YtodhkodhndbpmaaGreat
set_option linter.all false
open Go Go.RowKit
set_option maxRecDepth 100000
variable (w0 : World) (H : AHeap) (K : Value → AHeap → Prop)
theorem deadCodeS_ok (A : Option Addr) (c : Nat) (qs : List Qd) (hx : Fl H A (qcells qs)) (h : ∀ v C bs, AHeap.le H C → New H bs → Rw C 36 5 v (deadCode qs).length (qcells (deadCode qs)) bs → K (.tuple #[v, .bool (codeValid qs)]) C) :
    ACalls Tryz.prog w0 74 [.slice A qs.length c] H K := by
  cases hv : codeValid qs with
  | false =>
    have e : deadCode qs = [] := by simp [deadCode, hv]
    rw [e, hv] at h
    refine acalls_of_sx mix Tryz.func74 of74 (by simp [ir74]) ?_; rw [ir74]; (try delta qT qI qC qO qM qG)
    repeat' (first | simp -implicitDefEqProofs only [zG1,zG2,zG3,zG4,zG5,zG6,zG7,eq_self,resV,rval,X.val,binv,fillL,setR,↓reduceIte,Nat.reduceEqDiff,Nat.reduceAdd,Nat.reduceMul,Nat.reduceLeDiff,Nat.reduceLT,Nat.reduceSub,reduceCtorEq,zGq, hv] | ((with_reducible refine rows_intro (fun _ hb => ?_)); try simp only [set_none, ne_eq] at hb) | ((with_reducible refine new_intro (fun _ hb => ?_)); try simp only [set_none, ne_eq] at hb) | (with_reducible refine draw_same ?_) | ((with_reducible refine gd_split ?_ (fun _ => ?_) (fun _ => ?_)); exact rfl) | ((with_reducible refine td_split ?_ (fun _ => ?_) (fun _ => ?_)); exact rfl) | (with_reducible refine c_split (fun _ => ?_) (fun _ => ?_)) | (with_reducible refine codeValidS_ok _ _ _ _ _ _ (hx.fresh ‹H _ = none› _) ?_))
    exact ret_same (h _ _ _ ((AHeap.le.refl H).fresh hb _) (New.one hb) (Rw.mk (Kn.same _ _ _) rfl (Nat.le_refl _) (by simp [maxLen])))
  | true =>
    have hc := code_at hv
    have hll := live_len hv
    have el : liveOf qs = liveL qs := by simp [liveOf, hv]
    rw [hv] at h
    refine acalls_of_sx mix Tryz.func74 of74 (by simp [ir74]) ?_; rw [ir74]; (try delta qT qI qC qO qM qG)
    repeat' (first | simp -implicitDefEqProofs only [zG1,zG2,zG3,zG4,zG5,zG6,zG7,eq_self,resV,rval,X.val,binv,fillL,setR,↓reduceIte,Nat.reduceEqDiff,Nat.reduceAdd,Nat.reduceMul,Nat.reduceLeDiff,Nat.reduceLT,Nat.reduceSub,reduceCtorEq,zGq, hv] | ((with_reducible refine rows_intro (fun _ hb => ?_)); try simp only [set_none, ne_eq] at hb) | ((with_reducible refine new_intro (fun _ hb => ?_)); try simp only [set_none, ne_eq] at hb) | (with_reducible refine draw_same ?_) | ((with_reducible refine gd_split ?_ (fun _ => ?_) (fun _ => ?_)); exact rfl) | ((with_reducible refine td_split ?_ (fun _ => ?_) (fun _ => ?_)); exact rfl) | (with_reducible refine c_split (fun _ => ?_) (fun _ => ?_)) | (with_reducible refine codeValidS_ok _ _ _ _ _ _ (hx.fresh ‹H _ = none› _) ?_))
    rename_i b0
    have wz : Rw (H.set b0 ⟨[], true, 36, 0⟩) 36 5 (.slice (some ⟨b0, 0, none⟩) 0 0) 0 (qcells []) [b0] := Rw.mk (Kn.same _ _ _) rfl (Nat.le_refl _) (by simp [maxLen])
    have lz := (AHeap.le.refl H).fresh hb ⟨[], true, 36, 0⟩
    refine liveOfS_ok _ _ _ A c qs (hx.fresh hb _) (fun v1 C1 bs1 l1 n1 R1 => ?_)
    rw [el, ← rowsM_eq] at R1
    obtain ⟨bs1', hsub1, hne1, R1⟩ := R1.tight
    obtain ⟨B, cb, rfl⟩ := R1.slice
    rw [rowsM_len, hll] at R1 ⊢
    have hb01 : ∀ y, y ∈ [b0] → ¬ y ∈ bs1' := fun y hy hm => by
      simp at hy; subst hy
      have := n1 y (hsub1 y hm)
      rw [set_same] at this; cases this
    repeat' (first | simp -implicitDefEqProofs only [zG1,zG2,zG3,zG4,zG5,zG6,zG7,eq_self,resV,rval,X.val,binv,fillL,setR,↓reduceIte,Nat.reduceEqDiff,Nat.reduceAdd,Nat.reduceMul,Nat.reduceLeDiff,Nat.reduceLT,Nat.reduceSub,reduceCtorEq,zGq] | ((with_reducible refine rows_intro (fun _ hb => ?_)); try simp only [set_none, ne_eq] at hb) | ((with_reducible refine new_intro (fun _ hb => ?_)); try simp only [set_none, ne_eq] at hb) | (with_reducible refine draw_same ?_) | ((with_reducible refine gd_split ?_ (fun _ => ?_) (fun _ => ?_)); exact rfl) | ((with_reducible refine td_split ?_ (fun _ => ?_) (fun _ => ?_)); exact rfl) | (with_reducible refine c_split (fun _ => ?_) (fun _ => ?_)))
    refine for_rule qs.length (fun k fr C => ∃ (v : Value) (bs bsR : List Nat), AHeap.le H C ∧ New H bs ∧ Rs C 39 4 1 (.slice B qs.length cb) (rowsM (liveL qs)) bsR ∧ (∀ y, y ∈ bs → ¬ y ∈ bsR) ∧ Rw C 36 5 v k (qcells ((deadCode qs).take k)) bs ∧
      fr 0 = .slice A qs.length c ∧ fr 4 = v ∧ fr 5 = .slice B qs.length cb ∧ fr 6 = .int .i64 k)
      ⟨_, [b0], bs1', lz.trans l1, New.one hb, R1, hb01, wz.trans l1, (by first | rfl | (simp only [put_at, ↓reduceIte, Nat.reduceEqDiff]; first | done | rfl | assumption) | simp [put_at, *]), (by first | rfl | (simp only [put_at, ↓reduceIte, Nat.reduceEqDiff]; first | done | rfl | assumption) | simp [put_at, *]), (by first | rfl | (simp only [put_at, ↓reduceIte, Nat.reduceEqDiff]; first | done | rfl | assumption) | simp [put_at, *]), (by first | rfl | (simp only [put_at, ↓reduceIte, Nat.reduceEqDiff]; first | done | rfl | assumption) | simp [put_at, *])⟩ ?_ ?_
    · rintro k fr C hk ⟨v, bs, bsR, hle, hn, hR0, hd0, wo, f0, f4, f5, f6⟩ N hN
      obtain ⟨bs2, hsub2, hne2, hR⟩ := hR0.tight
      obtain ⟨A4, c4, rfl, -⟩ := wo.fl
      have g0 := lt_dec hk
      have g1 := rng hk
      have g2 := up1 hk (by omega)
      have p0 := (hx.le hle).quad hk
      have hqv := valid_more (hc.2.2 k hk) (show (qs.length : Int) ≤ 600 by omega)
      have e1 : IntKind.i64.wrap ((k : Int) + 1) = (k : Int) + 1 := wrap_i64 (by omega) (by omega)
      have hstep : (deadCode qs).take (k + 1) = (deadCode qs).take k ++ [if isDead qs[k] (behindM qs (liveL qs) k) then jumpQ k else qs[k]] := by
        rw [List.take_add_one]
        simp [deadCode, hv, hk, dead_eq hk, qAt_eq hk]
      repeat' (first | simp -implicitDefEqProofs only [zG1,zG2,zG3,zG4,zG5,zG6,zG7,eq_self,resV,rval,X.val,binv,fillL,setR,↓reduceIte,Nat.reduceEqDiff,Nat.reduceAdd,Nat.reduceMul,Nat.reduceLeDiff,Nat.reduceLT,Nat.reduceSub,reduceCtorEq,zGq, f0, f4, f5, f6, g0, g1, p0, Nat.add_zero] | ((with_reducible refine rows_intro (fun _ hb => ?_)); try simp only [set_none, ne_eq] at hb) | ((with_reducible refine new_intro (fun _ hb => ?_)); try simp only [set_none, ne_eq] at hb) | (with_reducible refine draw_same ?_) | ((with_reducible refine gd_split ?_ (fun _ => ?_) (fun _ => ?_)); exact rfl) | ((with_reducible refine td_split ?_ (fun _ => ?_) (fun _ => ?_)); exact rfl) | (with_reducible refine c_split (fun _ => ?_) (fun _ => ?_)))
      rename_i x1
      have lb := (AHeap.le.refl C).fresh hb ⟨qs[k].cells, true, 36, 5⟩
      have kq := Kn.same C x1 ⟨qs[k].cells, true, 36, 5⟩
      refine l32After_ok _ _ _ A c qs hv ((hx.le hle).le lb) B cb _ hll bs2 (hR.trans lb) k hk (fun v2 C2 ib2 l2 n2 w2 => ?_)
      obtain ⟨A2, c2, rfl, fl2⟩ := w2.fl
      have lb2 := lb.trans l2
      have kq2 := kq.trans l2
      have c0 := kq2.cell (j := 0) rfl
      have c1 := kq2.cell (j := 1) rfl
      have c2' := kq2.cell (j := 2) rfl
      have c3 := kq2.cell (j := 3) rfl
      have c4' := kq2.cell (j := 4) rfl
      repeat' (first | simp -implicitDefEqProofs only [zG1,zG2,zG3,zG4,zG5,zG6,zG7,eq_self,resV,rval,X.val,binv,fillL,setR,↓reduceIte,Nat.reduceEqDiff,Nat.reduceAdd,Nat.reduceMul,Nat.reduceLeDiff,Nat.reduceLT,Nat.reduceSub,reduceCtorEq,zGq, l2] | ((with_reducible refine rows_intro (fun _ hb => ?_)); try simp only [set_none, ne_eq] at hb) | ((with_reducible refine new_intro (fun _ hb => ?_)); try simp only [set_none, ne_eq] at hb) | (with_reducible refine draw_same ?_) | ((with_reducible refine gd_split ?_ (fun _ => ?_) (fun _ => ?_)); exact rfl) | ((with_reducible refine td_split ?_ (fun _ => ?_) (fun _ => ?_)); exact rfl) | (with_reducible refine c_split (fun _ => ?_) (fun _ => ?_)))
      refine l35Dead_ok _ _ _ qs[k] hqv A2 c2 _ fl2 ?_
      have wo2 := wo.trans lb2
      have fin : ∀ (q : Qd) (C3 : AHeap) (b7 : Nat) (D : Value → AHeap → Prop), AHeap.le C C3 → C3 b7 = none → q = (if isDead qs[k] (behindM qs (liveL qs) k) then jumpQ k else qs[k]) →
          (∀ v' C4 bs4, AHeap.le H C4 → New H bs4 → Rs C4 39 4 1 (.slice B qs.length cb) (rowsM (liveL qs)) bs2 → (∀ y, y ∈ bs4 → ¬ y ∈ bs2) → Rw C4 36 5 v' (k + 1) (qcells ((deadCode qs).take (k + 1))) bs4 → D v' C4) →
          appK Tryz.prog w0 [.int .i64 0, .int .i64 0, .int .i64 0, .int .i64 0, .int .i64 0] 36 40 (.slice A4 k c4) (.slice (some ⟨b7, 0, none⟩) 1 1) D (C3.set b7 ⟨q.cells, true, 36, 5⟩) := by
        intro q C3 b7 D l3 hb7 hq hD
        have l7 := le_fresh0 l3 (l3.none hb7) ⟨q.cells, true, 36, 5⟩
        refine app_rw (news := q.cells) (wo.trans l7) (Fl.blk _ _ _ _ fun _ _ h => h) rfl (q5_oc _) (by simp only [maxLen]; omega) (by omega) (fun v' C5 bs5 hc5 hn5 w5 => ?_)
        have hd' : ∀ y, y ∈ bs5 → H y = none ∧ ¬ y ∈ bs2 := fun y hy => by
          rcases hn5 y hy with hm | hm
          · exact ⟨hn y hm, fun e => hd0 y hm (hsub2 y e)⟩
          · refine ⟨(hle.trans l7).none hm, fun e => ?_⟩
            exact hne2 y e (l7.none hm)
        refine hD v' C5 bs5 (hc5.keep (hle.trans l7) hn) (fun y hy => (hd' y hy).1) ((hR.trans l7).chg hc5 (fun y hy e => hd0 y e (hsub2 y hy))) (fun y hy => (hd' y hy).2) ?_
        rw [hstep, ← hq, qcells_snoc]; exact w5
      cases hd : isDead qs[k] (behindM qs (liveL qs) k) with
      | true =>
        rw [hd] at fin
        repeat' (first | simp -implicitDefEqProofs only [zG1,zG2,zG3,zG4,zG5,zG6,zG7,eq_self,resV,rval,X.val,binv,fillL,setR,↓reduceIte,Nat.reduceEqDiff,Nat.reduceAdd,Nat.reduceMul,Nat.reduceLeDiff,Nat.reduceLT,Nat.reduceSub,reduceCtorEq,zGq, l2, f0, f4, f5, f6, g2, e1, c0, c1, c2', c3, c4'] | ((with_reducible refine rows_intro (fun _ hb => ?_)); try simp only [set_none, ne_eq] at hb) | ((with_reducible refine new_intro (fun _ hb => ?_)); try simp only [set_none, ne_eq] at hb) | (with_reducible refine draw_same ?_) | ((with_reducible refine gd_split ?_ (fun _ => ?_) (fun _ => ?_)); exact rfl) | ((with_reducible refine td_split ?_ (fun _ => ?_) (fun _ => ?_)); exact rfl) | (with_reducible refine c_split (fun _ => ?_) (fun _ => ?_)))
        refine st_kn kq2 rfl rfl (by simp) (by simp [vcA, ocI]) (fun C6 hc6 ho6 k6 => ?_)
        have l6 : AHeap.le C C6 := hc6.keep lb2 (New.one hb)
        have kq6 : Kn C6 x1 ⟨(jumpQ k).cells, true, 36, 5⟩ := k6
        have c0 := kq6.cell (j := 0) rfl
        have c1 := kq6.cell (j := 1) rfl
        have c2' := kq6.cell (j := 2) rfl
        have c3 := kq6.cell (j := 3) rfl
        have c4' := kq6.cell (j := 4) rfl
        repeat' (first | simp -implicitDefEqProofs only [zG1,zG2,zG3,zG4,zG5,zG6,zG7,eq_self,resV,rval,X.val,binv,fillL,setR,↓reduceIte,Nat.reduceEqDiff,Nat.reduceAdd,Nat.reduceMul,Nat.reduceLeDiff,Nat.reduceLT,Nat.reduceSub,reduceCtorEq,zGq, l2, f0, f4, f5, f6, g2, e1, c0, c1, c2', c3, c4'] | ((with_reducible refine rows_intro (fun _ hb => ?_)); try simp only [set_none, ne_eq] at hb) | ((with_reducible refine new_intro (fun _ hb => ?_)); try simp only [set_none, ne_eq] at hb) | (with_reducible refine draw_same ?_) | ((with_reducible refine gd_split ?_ (fun _ => ?_) (fun _ => ?_)); exact rfl) | ((with_reducible refine td_split ?_ (fun _ => ?_) (fun _ => ?_)); exact rfl) | (with_reducible refine c_split (fun _ => ?_) (fun _ => ?_)))
        refine fin (jumpQ k) C6 _ _ l6 hb rfl (fun v' C7 bs7 l7 n7 R7 d7 w7 => ?_)
        repeat' (first | simp -implicitDefEqProofs only [zG1,zG2,zG3,zG4,zG5,zG6,zG7,eq_self,resV,rval,X.val,binv,fillL,setR,↓reduceIte,Nat.reduceEqDiff,Nat.reduceAdd,Nat.reduceMul,Nat.reduceLeDiff,Nat.reduceLT,Nat.reduceSub,reduceCtorEq,zGq, f0, f4, f5, f6, g2] | ((with_reducible refine rows_intro (fun _ hb => ?_)); try simp only [set_none, ne_eq] at hb) | ((with_reducible refine new_intro (fun _ hb => ?_)); try simp only [set_none, ne_eq] at hb) | (with_reducible refine draw_same ?_) | ((with_reducible refine gd_split ?_ (fun _ => ?_) (fun _ => ?_)); exact rfl) | ((with_reducible refine td_split ?_ (fun _ => ?_) (fun _ => ?_)); exact rfl) | (with_reducible refine c_split (fun _ => ?_) (fun _ => ?_)))
        exact hN _ _ _ (.refl _) ⟨v', bs7, bs2, l7, n7, R7, d7, w7, (by first | rfl | (simp only [put_at, ↓reduceIte, Nat.reduceEqDiff]; first | done | rfl | assumption) | simp [put_at, *]), (by first | rfl | (simp only [put_at, ↓reduceIte, Nat.reduceEqDiff]; first | done | rfl | assumption) | simp [put_at, *]), (by first | rfl | (simp only [put_at, ↓reduceIte, Nat.reduceEqDiff]; first | done | rfl | assumption) | simp [put_at, *]), (by first | rfl | (simp only [put_at, ↓reduceIte, Nat.reduceEqDiff]; first | done | rfl | assumption) | simp [put_at, *])⟩
      | false =>
        rw [hd] at fin
        repeat' (first | simp -implicitDefEqProofs only [zG1,zG2,zG3,zG4,zG5,zG6,zG7,eq_self,resV,rval,X.val,binv,fillL,setR,↓reduceIte,Nat.reduceEqDiff,Nat.reduceAdd,Nat.reduceMul,Nat.reduceLeDiff,Nat.reduceLT,Nat.reduceSub,reduceCtorEq,zGq, l2, f0, f4, f5, f6, g2, e1, c0, c1, c2', c3, c4'] | ((with_reducible refine rows_intro (fun _ hb => ?_)); try simp only [set_none, ne_eq] at hb) | ((with_reducible refine new_intro (fun _ hb => ?_)); try simp only [set_none, ne_eq] at hb) | (with_reducible refine draw_same ?_) | ((with_reducible refine gd_split ?_ (fun _ => ?_) (fun _ => ?_)); exact rfl) | ((with_reducible refine td_split ?_ (fun _ => ?_) (fun _ => ?_)); exact rfl) | (with_reducible refine c_split (fun _ => ?_) (fun _ => ?_)))
        refine fin qs[k] C2 _ _ lb2 hb rfl (fun v' C7 bs7 l7 n7 R7 d7 w7 => ?_)
        repeat' (first | simp -implicitDefEqProofs only [zG1,zG2,zG3,zG4,zG5,zG6,zG7,eq_self,resV,rval,X.val,binv,fillL,setR,↓reduceIte,Nat.reduceEqDiff,Nat.reduceAdd,Nat.reduceMul,Nat.reduceLeDiff,Nat.reduceLT,Nat.reduceSub,reduceCtorEq,zGq, f0, f4, f5, f6, g2] | ((with_reducible refine rows_intro (fun _ hb => ?_)); try simp only [set_none, ne_eq] at hb) | ((with_reducible refine new_intro (fun _ hb => ?_)); try simp only [set_none, ne_eq] at hb) | (with_reducible refine draw_same ?_) | ((with_reducible refine gd_split ?_ (fun _ => ?_) (fun _ => ?_)); exact rfl) | ((with_reducible refine td_split ?_ (fun _ => ?_) (fun _ => ?_)); exact rfl) | (with_reducible refine c_split (fun _ => ?_) (fun _ => ?_)))
        exact hN _ _ _ (.refl _) ⟨v', bs7, bs2, l7, n7, R7, d7, w7, (by first | rfl | (simp only [put_at, ↓reduceIte, Nat.reduceEqDiff]; first | done | rfl | assumption) | simp [put_at, *]), (by first | rfl | (simp only [put_at, ↓reduceIte, Nat.reduceEqDiff]; first | done | rfl | assumption) | simp [put_at, *]), (by first | rfl | (simp only [put_at, ↓reduceIte, Nat.reduceEqDiff]; first | done | rfl | assumption) | simp [put_at, *]), (by first | rfl | (simp only [put_at, ↓reduceIte, Nat.reduceEqDiff]; first | done | rfl | assumption) | simp [put_at, *])⟩
    · rintro fr C ⟨v, bs, bsR, hle, hn, hR0, hd0, wo, f0, f4, f5, f6⟩ N
      obtain ⟨A4, c4, rfl, -⟩ := wo.fl
      have g0 : decide ((qs.length : Int) < (qs.length : Int)) = false := by simp
      have hdl : (deadCode qs).length = qs.length := by simp [deadCode, hv]
      rw [List.take_of_length_le (by omega)] at wo
      repeat' (first | simp -implicitDefEqProofs only [zG1,zG2,zG3,zG4,zG5,zG6,zG7,eq_self,resV,rval,X.val,binv,fillL,setR,↓reduceIte,Nat.reduceEqDiff,Nat.reduceAdd,Nat.reduceMul,Nat.reduceLeDiff,Nat.reduceLT,Nat.reduceSub,reduceCtorEq,zGq, f0, f4, f5, f6, g0] | ((with_reducible refine rows_intro (fun _ hb => ?_)); try simp only [set_none, ne_eq] at hb) | ((with_reducible refine new_intro (fun _ hb => ?_)); try simp only [set_none, ne_eq] at hb) | (with_reducible refine draw_same ?_) | ((with_reducible refine gd_split ?_ (fun _ => ?_) (fun _ => ?_)); exact rfl) | ((with_reducible refine td_split ?_ (fun _ => ?_) (fun _ => ?_)); exact rfl) | (with_reducible refine c_split (fun _ => ?_) (fun _ => ?_)))
      exact ret_same (h _ _ _ hle hn (by rw [hdl]; exact wo))
end Go.Proofs.YtodhkodhndbpmaaGreat
namespace Go.Proofs.YtodhkodhndbpmaaGreat
set_option linter.all false
open Go Go.RowKit
set_option maxRecDepth 100000
variable (w0 : World) (H : AHeap) (K : Value → AHeap → Prop)
theorem l36Idle_ok (q : Qd) (i : Nat) (hi : i ≤ 1048576) (h : K (.bool (idle q i)) H) : ACalls Tryz.prog w0 43 [q.val, .int .i64 i] H K := by
  have e1 : IntKind.i64.wrap ((i : Int) + 1) = (i : Int) + 1 := wrap_i64 (by omega) (by omega)
  refine acalls_of_sx mix Tryz.func43 of43 (by simp [ir43]) ?_; rw [ir43]; (try delta qT qI qC qO qM qG)
  repeat' (first | simp -implicitDefEqProofs only [zG1,zG2,zG3,zG4,zG5,zG6,zG7,eq_self,resV,rval,X.val,binv,fillL,setR,↓reduceIte,Nat.reduceEqDiff,Nat.reduceAdd,Nat.reduceMul,Nat.reduceLeDiff,Nat.reduceLT,Nat.reduceSub,reduceCtorEq,zGr, q_val, e1] | ((with_reducible refine rows_intro (fun _ hb => ?_)); try simp only [set_none, ne_eq] at hb) | ((with_reducible refine new_intro (fun _ hb => ?_)); try simp only [set_none, ne_eq] at hb) | (with_reducible refine draw_same ?_) | ((with_reducible refine gd_split ?_ (fun _ => ?_) (fun _ => ?_)); exact rfl) | ((with_reducible refine td_split ?_ (fun _ => ?_) (fun _ => ?_)); exact rfl) | (with_reducible refine c_split (fun _ => ?_) (fun _ => ?_)))
  all_goals (refine ⟨H, (AHeap.le.refl H).fresh ‹_› _, kb h ?_⟩)
  all_goals (try simp only [beq_iff_eq, beq_eq_false_iff_ne, bne_iff_ne, bne_eq_false_iff_eq, decide_eq_true_eq, decide_eq_false_iff_not, ne_eq, Bool.not_eq_true, Bool.not_eq_false, Bool.not_eq_eq_eq_not, Bool.not_true, Bool.not_false, Int.not_lt, Int.not_le, ge_iff_le, gt_iff_lt] at *)
  all_goals (simp only [idle]; grind)
theorem place_step (ks : List Bool) {k : Nat} {b : Bool} (h : ks[k]? = some b) : place ks (k + 1) = if b then place ks k + 1 else place ks k := by
  rw [place, idx_step ks h]
  cases b <;> simp [place]
theorem l36Place_ok (A : Option Addr) (c : Nat) (ks : List Bool) (t : Nat) (hx : Fl H A (bools ks)) (ht : t ≤ ks.length) (hn : ks.length ≤ 1048576) (h : K (.int .i64 (place ks t)) H) :
    ACalls Tryz.prog w0 44 [.slice A ks.length c, .int .i64 t] H K := by
  refine acalls_of_sx mix Tryz.func44 of44 (by simp [ir44]) ?_; rw [ir44]; (try delta qT qI qC qO qM qG)
  repeat' (first | simp -implicitDefEqProofs only [zG1,zG2,zG3,zG4,zG5,zG6,zG7,eq_self,resV,rval,X.val,binv,fillL,setR,↓reduceIte,Nat.reduceEqDiff,Nat.reduceAdd,Nat.reduceMul,Nat.reduceLeDiff,Nat.reduceLT,Nat.reduceSub,reduceCtorEq,zGq] | ((with_reducible refine rows_intro (fun _ hb => ?_)); try simp only [set_none, ne_eq] at hb) | ((with_reducible refine new_intro (fun _ hb => ?_)); try simp only [set_none, ne_eq] at hb) | (with_reducible refine draw_same ?_) | ((with_reducible refine gd_split ?_ (fun _ => ?_) (fun _ => ?_)); exact rfl) | ((with_reducible refine td_split ?_ (fun _ => ?_) (fun _ => ?_)); exact rfl) | (with_reducible refine c_split (fun _ => ?_) (fun _ => ?_)))
  refine for_rule t (fun k fr C => C = H ∧ fr 0 = .slice A ks.length c ∧ fr 1 = .int .i64 t ∧ fr 5 = .int .i64 (place ks k) ∧ fr 6 = .int .i64 k) ⟨rfl, rfl, rfl, rfl, rfl⟩ ?_ ?_
  · rintro k fr C hk ⟨rfl, f0, f1, f5, f6⟩ N hN
    have hkl : k < ks.length := by omega
    have g0 := lt_dec hk
    have g1 := rng hkl
    have g2 := up1 hk (by omega)
    have q1 := hx.bool hkl
    have q2 := hx.bools_is hkl
    have hs := place_step ks (List.getElem?_eq_getElem hkl)
    have hpl : place ks k ≤ k := idx_le ks k
    have g3 := up1 (k := place ks k) (n := 1048577) (by omega) (by omega)
    cases hb : ks[k] with
    | true =>
      rw [hb] at q1 hs
      repeat' (first | simp -implicitDefEqProofs only [zG1,zG2,zG3,zG4,zG5,zG6,zG7,eq_self,resV,rval,X.val,binv,fillL,setR,↓reduceIte,Nat.reduceEqDiff,Nat.reduceAdd,Nat.reduceMul,Nat.reduceLeDiff,Nat.reduceLT,Nat.reduceSub,reduceCtorEq,zGq, f0, f1, f5, f6, g0, g1, g2, g3, q1, q2, Nat.mul_one] | ((with_reducible refine rows_intro (fun _ hb => ?_)); try simp only [set_none, ne_eq] at hb) | ((with_reducible refine new_intro (fun _ hb => ?_)); try simp only [set_none, ne_eq] at hb) | (with_reducible refine draw_same ?_) | ((with_reducible refine gd_split ?_ (fun _ => ?_) (fun _ => ?_)); exact rfl) | ((with_reducible refine td_split ?_ (fun _ => ?_) (fun _ => ?_)); exact rfl) | (with_reducible refine c_split (fun _ => ?_) (fun _ => ?_)))
      exact hN _ _ _ (.refl _) ⟨rfl, (by first | rfl | (simp only [put_at, ↓reduceIte, Nat.reduceEqDiff]; first | done | rfl | assumption) | simp [put_at, *]), (by first | rfl | (simp only [put_at, ↓reduceIte, Nat.reduceEqDiff]; first | done | rfl | assumption) | simp [put_at, *]), by rw [hs]; exact (by first | rfl | (simp only [put_at, ↓reduceIte, Nat.reduceEqDiff]; first | done | rfl | assumption) | simp [put_at, *]), (by first | rfl | (simp only [put_at, ↓reduceIte, Nat.reduceEqDiff]; first | done | rfl | assumption) | simp [put_at, *])⟩
    | false =>
      rw [hb] at q1 hs
      repeat' (first | simp -implicitDefEqProofs only [zG1,zG2,zG3,zG4,zG5,zG6,zG7,eq_self,resV,rval,X.val,binv,fillL,setR,↓reduceIte,Nat.reduceEqDiff,Nat.reduceAdd,Nat.reduceMul,Nat.reduceLeDiff,Nat.reduceLT,Nat.reduceSub,reduceCtorEq,zGq, f0, f1, f5, f6, g0, g1, g2, g3, q1, q2, Nat.mul_one] | ((with_reducible refine rows_intro (fun _ hb => ?_)); try simp only [set_none, ne_eq] at hb) | ((with_reducible refine new_intro (fun _ hb => ?_)); try simp only [set_none, ne_eq] at hb) | (with_reducible refine draw_same ?_) | ((with_reducible refine gd_split ?_ (fun _ => ?_) (fun _ => ?_)); exact rfl) | ((with_reducible refine td_split ?_ (fun _ => ?_) (fun _ => ?_)); exact rfl) | (with_reducible refine c_split (fun _ => ?_) (fun _ => ?_)))
      exact hN _ _ _ (.refl _) ⟨rfl, (by first | rfl | (simp only [put_at, ↓reduceIte, Nat.reduceEqDiff]; first | done | rfl | assumption) | simp [put_at, *]), (by first | rfl | (simp only [put_at, ↓reduceIte, Nat.reduceEqDiff]; first | done | rfl | assumption) | simp [put_at, *]), by rw [hs]; exact (by first | rfl | (simp only [put_at, ↓reduceIte, Nat.reduceEqDiff]; first | done | rfl | assumption) | simp [put_at, *]), (by first | rfl | (simp only [put_at, ↓reduceIte, Nat.reduceEqDiff]; first | done | rfl | assumption) | simp [put_at, *])⟩
  · rintro fr C ⟨rfl, f0, f1, f5, f6⟩ N
    have g0 : decide ((t : Int) < (t : Int)) = false := by simp
    repeat' (first | simp -implicitDefEqProofs only [zG1,zG2,zG3,zG4,zG5,zG6,zG7,eq_self,resV,rval,X.val,binv,fillL,setR,↓reduceIte,Nat.reduceEqDiff,Nat.reduceAdd,Nat.reduceMul,Nat.reduceLeDiff,Nat.reduceLT,Nat.reduceSub,reduceCtorEq,zGq, f0, f1, f5, f6, g0] | ((with_reducible refine rows_intro (fun _ hb => ?_)); try simp only [set_none, ne_eq] at hb) | ((with_reducible refine new_intro (fun _ hb => ?_)); try simp only [set_none, ne_eq] at hb) | (with_reducible refine draw_same ?_) | ((with_reducible refine gd_split ?_ (fun _ => ?_) (fun _ => ?_)); exact rfl) | ((with_reducible refine td_split ?_ (fun _ => ?_) (fun _ => ?_)); exact rfl) | (with_reducible refine c_split (fun _ => ?_) (fun _ => ?_)))
    exact ret_same h
def keepTo (qs : List Qd) (ks rs : List Bool) (k : Nat) : List Bool := ks.take k ++ rs.drop k
theorem keepTo_set {qs : List Qd} {ks rs : List Bool} {k : Nat} (hl : ks.length = rs.length) (hk : k < ks.length) : (keepTo qs ks rs k).set k ks[k] = keepTo qs ks rs (k + 1) := by
  have e1 : (ks.take k).length = k := by simp; omega
  rw [keepTo, keepTo, List.set_append_right _ _ (by omega), e1, Nat.sub_self, List.drop_eq_getElem_cons (by omega : k < rs.length), List.set_cons_zero, List.take_add_one, List.getElem?_eq_getElem hk]
  simp only [Option.toList_some, List.append_assoc, List.singleton_append]
theorem keepTo_at {qs : List Qd} {ks rs : List Bool} {k : Nat} (hl : ks.length = rs.length) (hk : k < ks.length) : (keepTo qs ks rs k)[k]? = rs[k]? := by
  have e1 : (ks.take k).length = k := by simp; omega
  rw [keepTo, List.getElem?_append_right (by omega), e1, Nat.sub_self, List.getElem?_drop, Nat.add_zero]
theorem keepTo_len {qs : List Qd} {ks rs : List Bool} {k : Nat} (hl : ks.length = rs.length) (hk : k ≤ ks.length) : (keepTo qs ks rs k).length = rs.length := by simp [keepTo]; omega
theorem squeezeCodeS_ok (A : Option Addr) (c : Nat) (qs : List Qd) (hx : Fl H A (qcells qs)) (h : ∀ v C bs, AHeap.le H C → New H bs → Rw C 36 5 v (squeeze qs).length (qcells (squeeze qs)) bs → K (.tuple #[v, .bool (codeValid qs)]) C) :
    ACalls Tryz.prog w0 24 [.slice A qs.length c] H K := by
  cases hv : codeValid qs with
  | false =>
    have e : squeeze qs = [] := by simp [squeeze, hv]
    rw [e, hv] at h
    refine acalls_of_sx mix Tryz.func24 of24 (by simp [ir24]) ?_; rw [ir24]; (try delta qT qI qC qO qM qG)
    repeat' (first | simp -implicitDefEqProofs only [zG1,zG2,zG3,zG4,zG5,zG6,zG7,eq_self,resV,rval,X.val,binv,fillL,setR,↓reduceIte,Nat.reduceEqDiff,Nat.reduceAdd,Nat.reduceMul,Nat.reduceLeDiff,Nat.reduceLT,Nat.reduceSub,reduceCtorEq,zGq, hv] | ((with_reducible refine rows_intro (fun _ hb => ?_)); try simp only [set_none, ne_eq] at hb) | ((with_reducible refine new_intro (fun _ hb => ?_)); try simp only [set_none, ne_eq] at hb) | (with_reducible refine draw_same ?_) | ((with_reducible refine gd_split ?_ (fun _ => ?_) (fun _ => ?_)); exact rfl) | ((with_reducible refine td_split ?_ (fun _ => ?_) (fun _ => ?_)); exact rfl) | (with_reducible refine c_split (fun _ => ?_) (fun _ => ?_)) | (with_reducible refine codeValidS_ok _ _ _ _ _ _ (hx.fresh ‹H _ = none› _) ?_))
    exact ret_same (h _ _ _ ((AHeap.le.refl H).fresh hb _) (New.one hb) (Rw.mk (Kn.same _ _ _) rfl (Nat.le_refl _) (by simp [maxLen])))
  | true =>
    have hc := code_at hv
    rw [squeeze_eq hv, hv] at h
    have er : codeReach qs = reachL qs := by simp [codeReach, hv]
    have hkl : (keep qs).length = qs.length := by simp [keep]
    have hkr : ∀ k r, k < qs.length → (reachL qs)[k]? = some r → (keep qs)[k]? = some (r && !idle (qAt qs k) k) := fun k r hk hr => by rw [keep_at hk hr, qAt_eq hk]
    generalize hks : keep qs = ks at h hkl hkr
    refine acalls_of_sx mix Tryz.func24 of24 (by simp [ir24]) ?_; rw [ir24]; (try delta qT qI qC qO qM qG)
    repeat' (first | simp -implicitDefEqProofs only [zG1,zG2,zG3,zG4,zG5,zG6,zG7,eq_self,resV,rval,X.val,binv,fillL,setR,↓reduceIte,Nat.reduceEqDiff,Nat.reduceAdd,Nat.reduceMul,Nat.reduceLeDiff,Nat.reduceLT,Nat.reduceSub,reduceCtorEq,zGq, hv] | ((with_reducible refine rows_intro (fun _ hb => ?_)); try simp only [set_none, ne_eq] at hb) | ((with_reducible refine new_intro (fun _ hb => ?_)); try simp only [set_none, ne_eq] at hb) | (with_reducible refine draw_same ?_) | ((with_reducible refine gd_split ?_ (fun _ => ?_) (fun _ => ?_)); exact rfl) | ((with_reducible refine td_split ?_ (fun _ => ?_) (fun _ => ?_)); exact rfl) | (with_reducible refine c_split (fun _ => ?_) (fun _ => ?_)) | (with_reducible refine codeValidS_ok _ _ _ _ _ _ (hx.fresh ‹H _ = none› _) ?_))
    rename_i b0
    have wz' : Rw (H.set b0 ⟨[], true, 36, 0⟩) 36 5 (.slice (some ⟨b0, 0, none⟩) 0 0) 0 (qcells []) [b0] := Rw.mk (Kn.same _ _ _) rfl (Nat.le_refl _) (by simp [maxLen])
    refine codeReachS_ok _ _ _ A c qs (hx.fresh hb _) (fun v1 C1 bs1 l1 n1 w1 => ?_)
    rw [er, reachL_len] at w1
    have l1' := ((AHeap.le.refl H).fresh hb _).trans l1
    have wz := wz'.trans l1
    obtain ⟨b, cb, rfl, rfl, hl1, hm1, -, k1⟩ := w1.open_ (by omega)
    have hbn : H b = none := ((AHeap.le.refl H).fresh hb _).none (n1 b (by simp))
    have hbb : ¬ b0 = b := fun e => by have := n1 b (by simp); rw [← e, set_same] at this; cases this
    repeat' (first | simp -implicitDefEqProofs only [zG1,zG2,zG3,zG4,zG5,zG6,zG7,eq_self,resV,rval,X.val,binv,fillL,setR,↓reduceIte,Nat.reduceEqDiff,Nat.reduceAdd,Nat.reduceMul,Nat.reduceLeDiff,Nat.reduceLT,Nat.reduceSub,reduceCtorEq,zGq] | ((with_reducible refine rows_intro (fun _ hb => ?_)); try simp only [set_none, ne_eq] at hb) | ((with_reducible refine new_intro (fun _ hb => ?_)); try simp only [set_none, ne_eq] at hb) | (with_reducible refine draw_same ?_) | ((with_reducible refine gd_split ?_ (fun _ => ?_) (fun _ => ?_)); exact rfl) | ((with_reducible refine td_split ?_ (fun _ => ?_) (fun _ => ?_)); exact rfl) | (with_reducible refine c_split (fun _ => ?_) (fun _ => ?_)))
    refine for_rule qs.length (fun k fr C => AHeap.le H C ∧ Kn C b ⟨bools (keepTo qs ks (reachL qs) k), true, 4, cb * 1⟩ ∧ Rw C 36 5 (.slice (some ⟨b0, 0, none⟩) 0 0) 0 (qcells []) [b0] ∧
      fr 0 = .slice A qs.length c ∧ fr 4 = .slice (some ⟨b0, 0, none⟩) 0 0 ∧ fr 5 = .slice (some ⟨b, 0, none⟩) qs.length cb ∧ fr 6 = .int .i64 k)
      ⟨l1', by simpa [keepTo] using k1, wz, (by first | rfl | (simp only [put_at, ↓reduceIte, Nat.reduceEqDiff]; first | done | rfl | assumption) | simp [put_at, *]), (by first | rfl | (simp only [put_at, ↓reduceIte, Nat.reduceEqDiff]; first | done | rfl | assumption) | simp [put_at, *]), (by first | rfl | (simp only [put_at, ↓reduceIte, Nat.reduceEqDiff]; first | done | rfl | assumption) | simp [put_at, *]), (by first | rfl | (simp only [put_at, ↓reduceIte, Nat.reduceEqDiff]; first | done | rfl | assumption) | simp [put_at, *])⟩ ?_ ?_
    · rintro k fr C hk ⟨hl, kn, wo, f0, f4, f5, f6⟩ N hN
      have g0 := lt_dec hk
      have g1 := rng hk
      have g2 := up1 hk (by omega)
      have hrl := reachL_len qs
      have hlen := keepTo_len (qs := qs) (ks := ks) (rs := reachL qs) (k := k) (by omega) (by omega)
      have hrk : (reachL qs)[k]? = some ((reachL qs)[k]'(by omega)) := List.getElem?_eq_getElem _
      generalize hr : (reachL qs)[k]'(by omega) = r at hrk
      have hkk := hkr k r hk hrk
      rw [qAt_eq hk, List.getElem?_eq_getElem (by omega)] at hkk
      have hset := keepTo_set (qs := qs) (ks := ks) (rs := reachL qs) (k := k) (by omega) (by omega)
      rw [Option.some.inj hkk] at hset
      have q1 : C.cell (some ⟨b, k, none⟩) = some (.bool r) := kn.cell (by simp [bools, keepTo_at (qs := qs) (ks := ks) (rs := reachL qs) (k := k) (by omega) (by omega), hrk])
      have p0 := (hx.le hl).quad hk
      have fin : ∀ (fr' : Fr) (x : Bool), x = (r && !idle qs[k] k) → fr' 0 = .slice A qs.length c → fr' 4 = .slice (some ⟨b0, 0, none⟩) 0 0 → fr' 5 = .slice (some ⟨b, 0, none⟩) qs.length cb → fr' 6 = .int .i64 ((k + 1 : Nat) : Int) →
          ∀ C', Chg C C' [b] → Kn C' b ⟨setR (bools (keepTo qs ks (reachL qs) k)) k [.bool x], true, 4, cb * 1⟩ → N fr' C' := by
        rintro fr' _ rfl h0 h4 h5 h6 C' hc' k'
        refine hN _ _ _ (.refl _) ⟨hc'.keep hl (New.one hbn), ?_, wo.chg hc' (by simpa using hbb), h0, h4, h5, h6⟩
        rw [← hset, ← bools_set]; exact k'
      cases r with
      | false =>
        repeat' (first | simp -implicitDefEqProofs only [zG1,zG2,zG3,zG4,zG5,zG6,zG7,eq_self,resV,rval,X.val,binv,fillL,setR,↓reduceIte,Nat.reduceEqDiff,Nat.reduceAdd,Nat.reduceMul,Nat.reduceLeDiff,Nat.reduceLT,Nat.reduceSub,reduceCtorEq,zGq, f0, f4, f5, f6, g0, g1, g2, q1, adr_lit, Nat.zero_add, Nat.mul_one] | ((with_reducible refine rows_intro (fun _ hb => ?_)); try simp only [set_none, ne_eq] at hb) | ((with_reducible refine new_intro (fun _ hb => ?_)); try simp only [set_none, ne_eq] at hb) | (with_reducible refine draw_same ?_) | ((with_reducible refine gd_split ?_ (fun _ => ?_) (fun _ => ?_)); exact rfl) | ((with_reducible refine td_split ?_ (fun _ => ?_) (fun _ => ?_)); exact rfl) | (with_reducible refine c_split (fun _ => ?_) (fun _ => ?_)))
        refine st_kn kn rfl rfl (by simp [bools_len]; omega) (by simp [vcB, ocB]) (fun C6 hc6 ho6 k6 => ?_)
        repeat' (first | simp -implicitDefEqProofs only [zG1,zG2,zG3,zG4,zG5,zG6,zG7,eq_self,resV,rval,X.val,binv,fillL,setR,↓reduceIte,Nat.reduceEqDiff,Nat.reduceAdd,Nat.reduceMul,Nat.reduceLeDiff,Nat.reduceLT,Nat.reduceSub,reduceCtorEq,zGq, f0, f4, f5, f6, g2] | ((with_reducible refine rows_intro (fun _ hb => ?_)); try simp only [set_none, ne_eq] at hb) | ((with_reducible refine new_intro (fun _ hb => ?_)); try simp only [set_none, ne_eq] at hb) | (with_reducible refine draw_same ?_) | ((with_reducible refine gd_split ?_ (fun _ => ?_) (fun _ => ?_)); exact rfl) | ((with_reducible refine td_split ?_ (fun _ => ?_) (fun _ => ?_)); exact rfl) | (with_reducible refine c_split (fun _ => ?_) (fun _ => ?_)))
        exact fin _ false rfl (by first | rfl | (simp only [put_at, ↓reduceIte, Nat.reduceEqDiff]; first | done | rfl | assumption) | simp [put_at, *]) (by first | rfl | (simp only [put_at, ↓reduceIte, Nat.reduceEqDiff]; first | done | rfl | assumption) | simp [put_at, *]) (by first | rfl | (simp only [put_at, ↓reduceIte, Nat.reduceEqDiff]; first | done | rfl | assumption) | simp [put_at, *]) (by first | rfl | (simp only [put_at, ↓reduceIte, Nat.reduceEqDiff]; first | done | rfl | assumption) | simp [put_at, *]) _ hc6 k6
      | true =>
        repeat' (first | simp -implicitDefEqProofs only [zG1,zG2,zG3,zG4,zG5,zG6,zG7,eq_self,resV,rval,X.val,binv,fillL,setR,↓reduceIte,Nat.reduceEqDiff,Nat.reduceAdd,Nat.reduceMul,Nat.reduceLeDiff,Nat.reduceLT,Nat.reduceSub,reduceCtorEq,zGq, f0, f4, f5, f6, g0, g1, g2, q1, p0, adr_lit, Nat.zero_add, Nat.mul_one, Nat.add_zero] | ((with_reducible refine rows_intro (fun _ hb => ?_)); try simp only [set_none, ne_eq] at hb) | ((with_reducible refine new_intro (fun _ hb => ?_)); try simp only [set_none, ne_eq] at hb) | (with_reducible refine draw_same ?_) | ((with_reducible refine gd_split ?_ (fun _ => ?_) (fun _ => ?_)); exact rfl) | ((with_reducible refine td_split ?_ (fun _ => ?_) (fun _ => ?_)); exact rfl) | (with_reducible refine c_split (fun _ => ?_) (fun _ => ?_)) | (with_reducible refine l36Idle_ok _ _ _ qs[k] k (by omega) ?_))
        refine st_kn kn rfl rfl (by simp [bools_len]; omega) (by simp [vcB, ocB]) (fun C6 hc6 ho6 k6 => ?_)
        repeat' (first | simp -implicitDefEqProofs only [zG1,zG2,zG3,zG4,zG5,zG6,zG7,eq_self,resV,rval,X.val,binv,fillL,setR,↓reduceIte,Nat.reduceEqDiff,Nat.reduceAdd,Nat.reduceMul,Nat.reduceLeDiff,Nat.reduceLT,Nat.reduceSub,reduceCtorEq,zGq, f0, f4, f5, f6, g2] | ((with_reducible refine rows_intro (fun _ hb => ?_)); try simp only [set_none, ne_eq] at hb) | ((with_reducible refine new_intro (fun _ hb => ?_)); try simp only [set_none, ne_eq] at hb) | (with_reducible refine draw_same ?_) | ((with_reducible refine gd_split ?_ (fun _ => ?_) (fun _ => ?_)); exact rfl) | ((with_reducible refine td_split ?_ (fun _ => ?_) (fun _ => ?_)); exact rfl) | (with_reducible refine c_split (fun _ => ?_) (fun _ => ?_)))
        exact fin _ _ rfl (by first | rfl | (simp only [put_at, ↓reduceIte, Nat.reduceEqDiff]; first | done | rfl | assumption) | simp [put_at, *]) (by first | rfl | (simp only [put_at, ↓reduceIte, Nat.reduceEqDiff]; first | done | rfl | assumption) | simp [put_at, *]) (by first | rfl | (simp only [put_at, ↓reduceIte, Nat.reduceEqDiff]; first | done | rfl | assumption) | simp [put_at, *]) (by first | rfl | (simp only [put_at, ↓reduceIte, Nat.reduceEqDiff]; first | done | rfl | assumption) | simp [put_at, *]) _ hc6 k6
    · rintro fr C ⟨hl, kn, wo, f0, f4, f5, f6⟩ N
      have g0 : decide ((qs.length : Int) < (qs.length : Int)) = false := by simp
      repeat' (first | simp -implicitDefEqProofs only [zG1,zG2,zG3,zG4,zG5,zG6,zG7,eq_self,resV,rval,X.val,binv,fillL,setR,↓reduceIte,Nat.reduceEqDiff,Nat.reduceAdd,Nat.reduceMul,Nat.reduceLeDiff,Nat.reduceLT,Nat.reduceSub,reduceCtorEq,zGq, f0, f4, f5, f6, g0] | ((with_reducible refine rows_intro (fun _ hb => ?_)); try simp only [set_none, ne_eq] at hb) | ((with_reducible refine new_intro (fun _ hb => ?_)); try simp only [set_none, ne_eq] at hb) | (with_reducible refine draw_same ?_) | ((with_reducible refine gd_split ?_ (fun _ => ?_) (fun _ => ?_)); exact rfl) | ((with_reducible refine td_split ?_ (fun _ => ?_) (fun _ => ?_)); exact rfl) | (with_reducible refine c_split (fun _ => ?_) (fun _ => ?_)))
      have hkt : keepTo qs ks (reachL qs) qs.length = ks := by
        rw [keepTo, List.take_of_length_le (by omega), List.drop_of_length_le (by rw [reachL_len]; omega), List.append_nil]
      rw [hkt] at kn
      refine for_rule qs.length (fun k fr C => ∃ (v : Value) (bs : List Nat), AHeap.le H C ∧ Kn C b ⟨bools ks, true, 4, cb * 1⟩ ∧ Rw C 36 5 v (place ks k) (qcells (((idx ks k).map (qAt qs)).map (moved ks))) bs ∧ New H bs ∧ ¬ b ∈ bs ∧
        fr 0 = .slice A qs.length c ∧ fr 4 = v ∧ fr 5 = .slice (some ⟨b, 0, none⟩) qs.length cb ∧ fr 7 = .int .i64 k)
        ⟨_, [b0], hl, kn, wo, New.one (by assumption), by simpa using fun e => hbb e.symm, (by first | rfl | (simp only [put_at, ↓reduceIte, Nat.reduceEqDiff]; first | done | rfl | assumption) | simp [put_at, *]), by rw [← f4]; exact (by first | rfl | (simp only [put_at, ↓reduceIte, Nat.reduceEqDiff]; first | done | rfl | assumption) | simp [put_at, *]), (by first | rfl | (simp only [put_at, ↓reduceIte, Nat.reduceEqDiff]; first | done | rfl | assumption) | simp [put_at, *]), (by first | rfl | (simp only [put_at, ↓reduceIte, Nat.reduceEqDiff]; first | done | rfl | assumption) | simp [put_at, *])⟩ ?_ ?_
      · rintro k fr C hk ⟨v, bs, hl, kn, wo, hn, hbs, f0, f4, f5, f7⟩ N hN
        obtain ⟨A5, e5, rfl, -⟩ := wo.fl
        have g0 := lt_dec hk
        have g1 := rng hk
        have g2 := up1 hk (by omega)
        have hks' : ks[k]? = some (ks[k]'(by omega)) := List.getElem?_eq_getElem _
        generalize hr : ks[k]'(by omega) = r at hks'
        have q1 : C.cell (some ⟨b, k, none⟩) = some (.bool r) := kn.cell (by simp [bools, hks'])
        have p0 := (hx.le hl).quad hk
        have hst := idx_step ks hks'
        have hpl := idx_le ks k
        cases r with
        | false =>
          repeat' (first | simp -implicitDefEqProofs only [zG1,zG2,zG3,zG4,zG5,zG6,zG7,eq_self,resV,rval,X.val,binv,fillL,setR,↓reduceIte,Nat.reduceEqDiff,Nat.reduceAdd,Nat.reduceMul,Nat.reduceLeDiff,Nat.reduceLT,Nat.reduceSub,reduceCtorEq,zGq, f0, f4, f5, f7, g0, g1, g2, q1, p0, hb, adr_lit, Nat.zero_add, Nat.mul_one, Nat.add_zero] | ((with_reducible refine rows_intro (fun _ hb => ?_)); try simp only [set_none, ne_eq] at hb) | ((with_reducible refine new_intro (fun _ hb => ?_)); try simp only [set_none, ne_eq] at hb) | (with_reducible refine draw_same ?_) | ((with_reducible refine gd_split ?_ (fun _ => ?_) (fun _ => ?_)); exact rfl) | ((with_reducible refine td_split ?_ (fun _ => ?_) (fun _ => ?_)); exact rfl) | (with_reducible refine c_split (fun _ => ?_) (fun _ => ?_)))
          exact hN _ _ C ((AHeap.le.refl C).fresh hb _) ⟨_, bs, hl, kn, by rw [place, hst]; exact wo, hn, hbs, (by first | rfl | (simp only [put_at, ↓reduceIte, Nat.reduceEqDiff]; first | done | rfl | assumption) | simp [put_at, *]), (by first | rfl | (simp only [put_at, ↓reduceIte, Nat.reduceEqDiff]; first | done | rfl | assumption) | simp [put_at, *]), (by first | rfl | (simp only [put_at, ↓reduceIte, Nat.reduceEqDiff]; first | done | rfl | assumption) | simp [put_at, *]), (by first | rfl | (simp only [put_at, ↓reduceIte, Nat.reduceEqDiff]; first | done | rfl | assumption) | simp [put_at, *])⟩
        | true =>
          by_cases ho : qs[k].op = 4 ∨ qs[k].op = 5
          · obtain ⟨hn0, hn1⟩ := zero_in (hc.2.2 k hk) ho
            obtain ⟨t, ht⟩ : ∃ t : Nat, qs[k].n = (t : Int) := ⟨qs[k].n.toNat, by omega⟩
            have htn : t < qs.length := by omega
            have hmv : moved ks qs[k] = ⟨qs[k].op, qs[k].dst, qs[k].a, qs[k].b, ((place ks t : Nat) : Int)⟩ := by simp [moved, ho, ht]
            have d45 : (qs[k].op == 4) = true ∨ (qs[k].op == 4) = false ∧ (qs[k].op == 5) = true := by rcases ho with ho | ho <;> simp [ho]
            have hkf : ∀ x kk, C x = none → Fl (C.set x kk) (some ⟨b, 0, none⟩) (bools ks) := fun x kk hx => (kn.fresh hx kk).fl fun _ _ h => h
            rw [ht] at p0
            have eks : (Value.slice (some ⟨b, 0, none⟩) qs.length cb) = .slice (some ⟨b, 0, none⟩) ks.length cb := by rw [hkl]
            rcases d45 with d4 | ⟨d4, d5⟩
            · repeat' (first | simp -implicitDefEqProofs only [zG1,zG2,zG3,zG4,zG5,zG6,zG7,eq_self,resV,rval,X.val,binv,fillL,setR,↓reduceIte,Nat.reduceEqDiff,Nat.reduceAdd,Nat.reduceMul,Nat.reduceLeDiff,Nat.reduceLT,Nat.reduceSub,reduceCtorEq,zGq, f0, f4, f5, f7, g0, g1, g2, q1, p0, d4, hb, adr_lit, Nat.zero_add, Nat.mul_one, Nat.add_zero] | ((with_reducible refine rows_intro (fun _ hb => ?_)); try simp only [set_none, ne_eq] at hb) | ((with_reducible refine new_intro (fun _ hb => ?_)); try simp only [set_none, ne_eq] at hb) | (with_reducible refine draw_same ?_) | ((with_reducible refine gd_split ?_ (fun _ => ?_) (fun _ => ?_)); exact rfl) | ((with_reducible refine td_split ?_ (fun _ => ?_) (fun _ => ?_)); exact rfl) | (with_reducible refine c_split (fun _ => ?_) (fun _ => ?_)) | (rw [eks]; with_reducible refine l36Place_ok _ _ _ _ cb ks t (hkf _ _ hb) (by omega) (by omega) ?_))
              rename_i x1 hb1 x2
              have l6 := (AHeap.le.refl C).fresh hb1 ⟨(⟨qs[k].op, qs[k].dst, qs[k].a, qs[k].b, ((place ks t : Nat) : Int)⟩ : Qd).cells, true, 36, 5⟩
              have l7 := le_fresh0 l6 hb.2 ⟨(⟨qs[k].op, qs[k].dst, qs[k].a, qs[k].b, ((place ks t : Nat) : Int)⟩ : Qd).cells, true, 36, 5⟩
              have wo7 := wo.trans l7
              refine app_rw (news := (⟨qs[k].op, qs[k].dst, qs[k].a, qs[k].b, ((place ks t : Nat) : Int)⟩ : Qd).cells) wo7 (Fl.blk _ _ _ _ fun _ _ h => h) rfl (q5_oc _) (by simp only [maxLen, place]; omega) (by simp only [place]; omega) (fun v' C7 bs7 hc7 hn7 w7 => ?_)
              repeat' (first | simp -implicitDefEqProofs only [zG1,zG2,zG3,zG4,zG5,zG6,zG7,eq_self,resV,rval,X.val,binv,fillL,setR,↓reduceIte,Nat.reduceEqDiff,Nat.reduceAdd,Nat.reduceMul,Nat.reduceLeDiff,Nat.reduceLT,Nat.reduceSub,reduceCtorEq,zGq, f0, f4, f5, f7, g2] | ((with_reducible refine rows_intro (fun _ hb => ?_)); try simp only [set_none, ne_eq] at hb) | ((with_reducible refine new_intro (fun _ hb => ?_)); try simp only [set_none, ne_eq] at hb) | (with_reducible refine draw_same ?_) | ((with_reducible refine gd_split ?_ (fun _ => ?_) (fun _ => ?_)); exact rfl) | ((with_reducible refine td_split ?_ (fun _ => ?_) (fun _ => ?_)); exact rfl) | (with_reducible refine c_split (fun _ => ?_) (fun _ => ?_)))
              have kn7 := kn.trans l7
              have hd' : ∀ x, x ∈ bs7 → H x = none ∧ ¬ x = b := fun x hx => by
                rcases hn7 x hx with hm | hm
                · exact ⟨hn x hm, fun e => hbs (e ▸ hm)⟩
                · exact ⟨(hl.trans l7).none hm, fun e => kn7.ne (e ▸ hm)⟩
              refine hN _ _ _ (.refl _) ⟨v', bs7, hc7.keep (hl.trans l7) hn, kn7.chg hc7 hbs, ?_, fun x hx => (hd' x hx).1, fun e => (hd' b e).2 rfl, (by first | rfl | (simp only [put_at, ↓reduceIte, Nat.reduceEqDiff]; first | done | rfl | assumption) | simp [put_at, *]), (by first | rfl | (simp only [put_at, ↓reduceIte, Nat.reduceEqDiff]; first | done | rfl | assumption) | simp [put_at, *]), (by first | rfl | (simp only [put_at, ↓reduceIte, Nat.reduceEqDiff]; first | done | rfl | assumption) | simp [put_at, *]), (by first | rfl | (simp only [put_at, ↓reduceIte, Nat.reduceEqDiff]; first | done | rfl | assumption) | simp [put_at, *])⟩
              rw [place, hst]
              simp only [if_true, List.map_append, List.length_append, List.length_cons, List.length_nil, List.map_cons, List.map_nil, qcells_snoc, qAt_eq hk, hmv]
              exact w7
            · repeat' (first | simp -implicitDefEqProofs only [zG1,zG2,zG3,zG4,zG5,zG6,zG7,eq_self,resV,rval,X.val,binv,fillL,setR,↓reduceIte,Nat.reduceEqDiff,Nat.reduceAdd,Nat.reduceMul,Nat.reduceLeDiff,Nat.reduceLT,Nat.reduceSub,reduceCtorEq,zGq, f0, f4, f5, f7, g0, g1, g2, q1, p0, d4, d5, hb, adr_lit, Nat.zero_add, Nat.mul_one, Nat.add_zero] | ((with_reducible refine rows_intro (fun _ hb => ?_)); try simp only [set_none, ne_eq] at hb) | ((with_reducible refine new_intro (fun _ hb => ?_)); try simp only [set_none, ne_eq] at hb) | (with_reducible refine draw_same ?_) | ((with_reducible refine gd_split ?_ (fun _ => ?_) (fun _ => ?_)); exact rfl) | ((with_reducible refine td_split ?_ (fun _ => ?_) (fun _ => ?_)); exact rfl) | (with_reducible refine c_split (fun _ => ?_) (fun _ => ?_)) | (rw [eks]; with_reducible refine l36Place_ok _ _ _ _ cb ks t (hkf _ _ hb) (by omega) (by omega) ?_))
              rename_i x1 hb1 x2
              have l6 := (AHeap.le.refl C).fresh hb1 ⟨(⟨qs[k].op, qs[k].dst, qs[k].a, qs[k].b, ((place ks t : Nat) : Int)⟩ : Qd).cells, true, 36, 5⟩
              have l7 := le_fresh0 l6 hb.2 ⟨(⟨qs[k].op, qs[k].dst, qs[k].a, qs[k].b, ((place ks t : Nat) : Int)⟩ : Qd).cells, true, 36, 5⟩
              have wo7 := wo.trans l7
              refine app_rw (news := (⟨qs[k].op, qs[k].dst, qs[k].a, qs[k].b, ((place ks t : Nat) : Int)⟩ : Qd).cells) wo7 (Fl.blk _ _ _ _ fun _ _ h => h) rfl (q5_oc _) (by simp only [maxLen, place]; omega) (by simp only [place]; omega) (fun v' C7 bs7 hc7 hn7 w7 => ?_)
              repeat' (first | simp -implicitDefEqProofs only [zG1,zG2,zG3,zG4,zG5,zG6,zG7,eq_self,resV,rval,X.val,binv,fillL,setR,↓reduceIte,Nat.reduceEqDiff,Nat.reduceAdd,Nat.reduceMul,Nat.reduceLeDiff,Nat.reduceLT,Nat.reduceSub,reduceCtorEq,zGq, f0, f4, f5, f7, g2] | ((with_reducible refine rows_intro (fun _ hb => ?_)); try simp only [set_none, ne_eq] at hb) | ((with_reducible refine new_intro (fun _ hb => ?_)); try simp only [set_none, ne_eq] at hb) | (with_reducible refine draw_same ?_) | ((with_reducible refine gd_split ?_ (fun _ => ?_) (fun _ => ?_)); exact rfl) | ((with_reducible refine td_split ?_ (fun _ => ?_) (fun _ => ?_)); exact rfl) | (with_reducible refine c_split (fun _ => ?_) (fun _ => ?_)))
              have kn7 := kn.trans l7
              have hd' : ∀ x, x ∈ bs7 → H x = none ∧ ¬ x = b := fun x hx => by
                rcases hn7 x hx with hm | hm
                · exact ⟨hn x hm, fun e => hbs (e ▸ hm)⟩
                · exact ⟨(hl.trans l7).none hm, fun e => kn7.ne (e ▸ hm)⟩
              refine hN _ _ _ (.refl _) ⟨v', bs7, hc7.keep (hl.trans l7) hn, kn7.chg hc7 hbs, ?_, fun x hx => (hd' x hx).1, fun e => (hd' b e).2 rfl, (by first | rfl | (simp only [put_at, ↓reduceIte, Nat.reduceEqDiff]; first | done | rfl | assumption) | simp [put_at, *]), (by first | rfl | (simp only [put_at, ↓reduceIte, Nat.reduceEqDiff]; first | done | rfl | assumption) | simp [put_at, *]), (by first | rfl | (simp only [put_at, ↓reduceIte, Nat.reduceEqDiff]; first | done | rfl | assumption) | simp [put_at, *]), (by first | rfl | (simp only [put_at, ↓reduceIte, Nat.reduceEqDiff]; first | done | rfl | assumption) | simp [put_at, *])⟩
              rw [place, hst]
              simp only [if_true, List.map_append, List.length_append, List.length_cons, List.length_nil, List.map_cons, List.map_nil, qcells_snoc, qAt_eq hk, hmv]
              exact w7
          · have d4 : (qs[k].op == 4) = false := by simp; omega
            have d5 : (qs[k].op == 5) = false := by simp; omega
            repeat' (first | simp -implicitDefEqProofs only [zG1,zG2,zG3,zG4,zG5,zG6,zG7,eq_self,resV,rval,X.val,binv,fillL,setR,↓reduceIte,Nat.reduceEqDiff,Nat.reduceAdd,Nat.reduceMul,Nat.reduceLeDiff,Nat.reduceLT,Nat.reduceSub,reduceCtorEq,zGq, f0, f4, f5, f7, g0, g1, g2, q1, p0, d4, d5, hb, adr_lit, Nat.zero_add, Nat.mul_one, Nat.add_zero] | ((with_reducible refine rows_intro (fun _ hb => ?_)); try simp only [set_none, ne_eq] at hb) | ((with_reducible refine new_intro (fun _ hb => ?_)); try simp only [set_none, ne_eq] at hb) | (with_reducible refine draw_same ?_) | ((with_reducible refine gd_split ?_ (fun _ => ?_) (fun _ => ?_)); exact rfl) | ((with_reducible refine td_split ?_ (fun _ => ?_) (fun _ => ?_)); exact rfl) | (with_reducible refine c_split (fun _ => ?_) (fun _ => ?_)))
            have hmv : moved ks qs[k] = qs[k] := by simp only [moved, if_neg ho]
            rename_i x1 hb1 x2
            have l6 := (AHeap.le.refl C).fresh hb1 ⟨qs[k].cells, true, 36, 5⟩
            have l7 := le_fresh0 l6 hb.2 ⟨(qs[k]).cells, true, 36, 5⟩
            have wo7 := wo.trans l7
            refine app_rw (news := (qs[k]).cells) wo7 (Fl.blk _ _ _ _ fun _ _ h => h) rfl (q5_oc _) (by simp only [maxLen, place]; omega) (by simp only [place]; omega) (fun v' C7 bs7 hc7 hn7 w7 => ?_)
            repeat' (first | simp -implicitDefEqProofs only [zG1,zG2,zG3,zG4,zG5,zG6,zG7,eq_self,resV,rval,X.val,binv,fillL,setR,↓reduceIte,Nat.reduceEqDiff,Nat.reduceAdd,Nat.reduceMul,Nat.reduceLeDiff,Nat.reduceLT,Nat.reduceSub,reduceCtorEq,zGq, f0, f4, f5, f7, g2] | ((with_reducible refine rows_intro (fun _ hb => ?_)); try simp only [set_none, ne_eq] at hb) | ((with_reducible refine new_intro (fun _ hb => ?_)); try simp only [set_none, ne_eq] at hb) | (with_reducible refine draw_same ?_) | ((with_reducible refine gd_split ?_ (fun _ => ?_) (fun _ => ?_)); exact rfl) | ((with_reducible refine td_split ?_ (fun _ => ?_) (fun _ => ?_)); exact rfl) | (with_reducible refine c_split (fun _ => ?_) (fun _ => ?_)))
            have kn7 := kn.trans l7
            have hd' : ∀ x, x ∈ bs7 → H x = none ∧ ¬ x = b := fun x hx => by
              rcases hn7 x hx with hm | hm
              · exact ⟨hn x hm, fun e => hbs (e ▸ hm)⟩
              · exact ⟨(hl.trans l7).none hm, fun e => kn7.ne (e ▸ hm)⟩
            refine hN _ _ _ (.refl _) ⟨v', bs7, hc7.keep (hl.trans l7) hn, kn7.chg hc7 hbs, ?_, fun x hx => (hd' x hx).1, fun e => (hd' b e).2 rfl, (by first | rfl | (simp only [put_at, ↓reduceIte, Nat.reduceEqDiff]; first | done | rfl | assumption) | simp [put_at, *]), (by first | rfl | (simp only [put_at, ↓reduceIte, Nat.reduceEqDiff]; first | done | rfl | assumption) | simp [put_at, *]), (by first | rfl | (simp only [put_at, ↓reduceIte, Nat.reduceEqDiff]; first | done | rfl | assumption) | simp [put_at, *]), (by first | rfl | (simp only [put_at, ↓reduceIte, Nat.reduceEqDiff]; first | done | rfl | assumption) | simp [put_at, *])⟩
            rw [place, hst]
            simp only [if_true, List.map_append, List.length_append, List.length_cons, List.length_nil, List.map_cons, List.map_nil, qcells_snoc, qAt_eq hk, hmv]
            exact w7
      · rintro fr C ⟨v, bs, hl, kn, wo, hn, hbs, f0, f4, f5, f7⟩ N
        have g0 : decide ((qs.length : Int) < (qs.length : Int)) = false := by simp
        repeat' (first | simp -implicitDefEqProofs only [zG1,zG2,zG3,zG4,zG5,zG6,zG7,eq_self,resV,rval,X.val,binv,fillL,setR,↓reduceIte,Nat.reduceEqDiff,Nat.reduceAdd,Nat.reduceMul,Nat.reduceLeDiff,Nat.reduceLT,Nat.reduceSub,reduceCtorEq,zGq, f0, f4, f5, f7, g0] | ((with_reducible refine rows_intro (fun _ hb => ?_)); try simp only [set_none, ne_eq] at hb) | ((with_reducible refine new_intro (fun _ hb => ?_)); try simp only [set_none, ne_eq] at hb) | (with_reducible refine draw_same ?_) | ((with_reducible refine gd_split ?_ (fun _ => ?_) (fun _ => ?_)); exact rfl) | ((with_reducible refine td_split ?_ (fun _ => ?_) (fun _ => ?_)); exact rfl) | (with_reducible refine c_split (fun _ => ?_) (fun _ => ?_)))
        refine ret_same (h _ _ bs hl hn ?_)
        rw [List.length_map, List.length_map]; exact wo
end Go.Proofs.YtodhkodhndbpmaaGreat
namespace Go.Proofs.YtodhkodhndbpmaaGreat
set_option linter.all false
open Go Go.RowKit
theorem code_mk {qs : List Qd} (h1 : 1 ≤ qs.length) (h2 : qs.length ≤ 600) (h : ∀ i (hi : i < qs.length), quadValid qs[i] qs.length = true) (hl : opAt qs (qs.length - 1) = 10 ∨ opAt qs (qs.length - 1) = 4) : codeValid qs = true := by
  rw [code_good h1 h2 h]
  rcases hl with h | h <;> simp [h]
theorem code_last {qs : List Qd} (hv : codeValid qs = true) : opAt qs (qs.length - 1) = 10 ∨ opAt qs (qs.length - 1) = 4 := by
  simp only [codeValid, Bool.and_eq_true, Bool.or_eq_true, beq_iff_eq] at hv
  exact hv.2
theorem code_next {qs : List Qd} (hv : codeValid qs = true) {i : Nat} (hi : i < qs.length) (h1 : qs[i].op ≠ 10) (h2 : qs[i].op ≠ 4) : i + 1 < qs.length := by
  have hl := code_last hv
  by_cases h : i + 1 < qs.length
  · exact h
  · rw [show qs.length - 1 = i by omega, opAt_eq hi] at hl
    omega
namespace Fw
variable {V : Type} {F : Fw V} {s0 : List V}
/-- What each step keeps holds of the solution; and there is one. -/
theorem sol_keeps (P : V → Prop) (hj : ∀ a b, F.ok a → F.ok b → P a → P b → P (F.join a b)) (ht : ∀ i a, F.ok a → P a → P (F.tr i a)) (hk : F.Oks s0) (h0 : ∀ (i : Nat) (v : V), s0[i]? = some v → P v) :
    F.Sol s0 (F.sol s0) ∧ ∀ (i : Nat) (v : V), (F.sol s0)[i]? = some v → P v := by
  have key : ∀ (n : Nat) (s : List V), F.pot s ≤ n → F.Below s0 s → (∀ (i : Nat) (v : V), s[i]? = some v → P v) → ∃ s', F.Sol s0 s' ∧ ∀ (i : Nat) (v : V), s'[i]? = some v → P v := by
    intro n
    induction n using Nat.strongRecOn with
    | ind n ih =>
      intro s hn hb hP
      by_cases hs : ∀ i v, s[i]? = some v → F.Sats s i v
      · exact ⟨s, ⟨hb, hs⟩, hP⟩
      · have : ∃ i v j u, s[i]? = some v ∧ j ∈ F.edges i v ∧ s[j]? = some u ∧ ¬ F.le (F.tr i v) u := by
          refine Classical.byContradiction fun hno => hs fun i v hv j hj' u hu => ?_
          exact Classical.byContradiction fun hl => hno ⟨i, v, j, u, hv, hj', hu, hl⟩
        obtain ⟨i, v, j, u, hv, hj', hu, hl⟩ := this
        have ou := hb.2.1 j u hu
        have ov := hb.2.1 i v hv
        have ot := F.ok_tr (i := i) ov
        have hne : F.join u (F.tr i v) ≠ u := fun e => hl (le_of_join ou ot e)
        have hlt : F.pot (s.set j (F.join u (F.tr i v))) < F.pot s := pot_lt hu (F.ht_lt ou ot hne)
        refine ih _ (Nat.lt_of_lt_of_le hlt hn) _ (Nat.le_refl _) (hb.step (hb.lo hv) hj' hu (by rw [← hb.1]; exact (List.getElem?_eq_some_iff.1 hv).1)) fun i' v' h' => ?_
        rw [set_get hu] at h'
        split at h'
        · obtain rfl := Option.some.inj h'
          exact hj _ _ ou ot (hP _ _ hu) (ht _ _ ov (hP _ _ hv))
        · exact hP _ _ h'
  obtain ⟨s', h1, h2⟩ := key (F.pot s0) s0 (Nat.le_refl _) (Below.init hk) h0
  rw [Sol.eq h1]
  exact ⟨h1, h2⟩
end Fw
theorem facts_ok {qs : List Qd} (hv : codeValid qs = true) : (factsOf qs).length = qs.length ∧ ∀ (i : Nat) (v : List Fc), (factsOf qs)[i]? = some v → okF v := by
  have h := (Fw.sol_keeps (F := factF qs) (s0 := facts0 qs.length) (fun _ => True) (fun _ _ _ _ _ _ => trivial) (fun _ _ _ _ => trivial) (facts0_ok qs _) fun _ _ _ => trivial).1
  have e : factsOf qs = (factF qs).sol (facts0 qs.length) := by simp [factsOf, hv, factsL]
  rw [e]
  exact ⟨h.1.1.trans (facts0_len (code_at hv).1), h.1.2.1⟩
theorem foldBin_valid {q : Qd} {m : Int} {f g : Fc} (h : quadValid q m = true) (ho : q.op = 3) (hf : goodF f) (hg : goodF g) : quadValid (foldBin q f g) m = true := by
  have hq := h
  simp only [quadValid, ho] at hq
  simp only [Int.reduceEq, if_false, if_true, Bool.and_eq_true] at hq
  obtain ⟨⟨⟨h1, h2⟩, h3⟩, h4⟩ := hq
  unfold foldBin
  repeat' split
  · rename_i hk
    have w : wordI (applyN q.n f.n g.n) := by
      refine applyN_word ?_ ?_
      · rcases hf with hf | rfl
        · exact hf.2
        · cases hk.1
      · rcases hg with hg | rfl
        · exact hg.2
        · cases hk.2
    simp [quadValid, h1, (wordI_iff _).2 w]
  · simp [quadValid, h1, h2]
  · simp [quadValid, h1, h2]
  · simp [quadValid, h1, h3]
  · simp [quadValid, h1, h3]
  · simp [quadValid, h1]; decide
  · exact h
theorem foldV_valid {q : Qd} {m : Int} {i : Nat} {v : List Fc} (h : quadValid q m = true) (hv : okF v) (hi : q.op = 5 → (i : Int) + 1 < m) : quadValid (foldV q i v) m = true := by
  unfold foldV
  split
  · exact h
  · rename_i h0
    have hb : v ≠ botF := fun e => h0 ((bot_iff hv).1 e)
    have hg := (okF_ne hv hb).2
    obtain ⟨ga, gb⟩ := valid_regs h
    unfold foldQ
    repeat' split
    · rename_i hk
      have hq := h
      simp only [quadValid, hk.1] at hq
      simp at hq
      rcases hg q.a.toNat (by omega) with hf | hf
      · simp [quadValid, hq.1.1.1, (wordI_iff _).2 hf.2]
      · rw [hf] at hk; cases hk.2
    · exact foldBin_valid h ‹_› (hg _ (by omega)) (hg _ (by omega))
    · rename_i hk
      have hq := h
      simp only [quadValid, hk.1] at hq
      simp at hq
      simp [quadValid]; omega
    · rename_i hk
      have := hi hk.1
      simp [quadValid]; omega
    · exact h
theorem foldV_op {q : Qd} {i : Int} {v : List Fc} (h : q.op = 10 ∨ q.op = 4) : foldV q i v = q := by
  unfold foldV foldQ
  split
  · rfl
  · rw [if_neg (by omega), if_neg (by omega), if_neg (by omega), if_neg (by omega)]
theorem foldCode_valid {qs : List Qd} (hv : codeValid qs = true) : codeValid (foldCode qs) = true := by
  obtain ⟨c1, c2, c3⟩ := code_at hv
  obtain ⟨fl, fo⟩ := facts_ok hv
  have e : foldCode qs = (List.range qs.length).map fun i => foldV (qAt qs i) i (fvAt (factsOf qs) i) := by simp [foldCode, hv]
  have hl : (foldCode qs).length = qs.length := by rw [e]; simp
  have hget : ∀ i (hi : i < qs.length), (foldCode qs)[i]'(by omega) = foldV qs[i] i (fvAt (factsOf qs) i) := by
    intro i hi
    simp only [e, List.getElem_map, List.getElem_range, qAt_eq hi]
  have hok : ∀ i, i < qs.length → okF (fvAt (factsOf qs) i) := by
    intro i hi
    have : (factsOf qs)[i]? = some (factsOf qs)[i] := List.getElem?_eq_getElem (by omega)
    simp only [fvAt, this, Option.getD_some]
    exact fo i _ this
  refine code_mk (by omega) (by omega) (fun i hi => ?_) ?_
  · have hi' : i < qs.length := by omega
    rw [hget i hi', hl]
    refine foldV_valid (c3 i hi') (hok i hi') fun h5 => ?_
    have := code_next hv hi' (by omega) (by omega)
    omega
  · have hi' : qs.length - 1 < qs.length := by omega
    have hlast := code_last hv
    rw [opAt_eq hi'] at hlast
    rw [hl, opAt_eq (by omega), hget _ hi', foldV_op hlast]
    exact hlast
def regC (v : List Int) : Prop := ∀ r, r < 12 → 0 ≤ iAt v r ∧ iAt v r < 12
theorem self_reg : regC selfC := fun r hr => by rw [selfC, mk12_at _ hr]; omega
theorem kept_reg {q : Qd} {v : List Int} (h : regC v) : regC (keptC q v) := fun r hr => by
  rw [keptC, mk12_at _ hr]
  have := h r hr
  split <;> omega
theorem iAt_set' {v : List Int} {i r : Nat} {x : Int} (hr : r < v.length) : iAt (v.set i x) r = if i = r then x else iAt v r := by
  simp only [iAt, List.getElem?_set]
  split
  · rename_i h; subst h; rw [if_pos hr]; rfl
  · rfl
theorem behind_reg {q : Qd} {m : Int} (hq : quadValid q m = true) {v : List Int} (h : v = [] ∨ regC v) (hk : okC v) : behindC q v = [] ∨ regC (behindC q v) := by
  unfold behindC
  split
  · exact .inl rfl
  · rename_i h0
    have hR := h.resolve_left h0
    split
    · exact .inr hR
    · split
      · rename_i h2
        obtain ⟨ga, gb⟩ := valid_regs hq
        refine .inr fun r hr => ?_
        rw [iAt_set' (by rw [keptC, mk12_len]; exact hr)]
        split
        · omega
        · exact kept_reg hR r hr
      · exact .inr (kept_reg hR)
theorem copies_reg {qs : List Qd} (hv : codeValid qs = true) : (copiesOf qs).length = qs.length ∧ ∀ (i : Nat) (v : List Int), (copiesOf qs)[i]? = some v → regC v := by
  have hc := code_at hv
  have h := Fw.sol_keeps (F := copyF qs) (s0 := copies0 qs.length) (fun v => v = [] ∨ regC v) (fun a b _ _ ha hb => ?_) (fun i a hk ha => ?_) (copies0_ok qs _) fun i v hi => ?_
  · have e : copiesOf qs = ((copyF qs).sol (copies0 qs.length)).map shown := by simp [copiesOf, hv, copiesL]
    rw [e]
    refine ⟨by rw [List.length_map]; exact h.1.1.1.trans (copies0_len hc.1), fun i v hi => ?_⟩
    rw [List.getElem?_map] at hi
    obtain ⟨u, hu, rfl⟩ := Option.map_eq_some_iff.1 hi
    unfold shown
    split
    · exact self_reg
    · exact (h.2 i u hu).resolve_left ‹_›
  · show joinC a b = [] ∨ regC (joinC a b)
    unfold joinC
    split
    · exact hb
    · split
      · exact ha
      · refine .inr fun r hr => ?_
        rw [meetC, mk12_at _ hr]
        have := ha.resolve_left ‹_› r hr
        split <;> omega
  · show (match qs[i]? with | some q => behindC q a | none => []) = [] ∨ regC (match qs[i]? with | some q => behindC q a | none => [])
    cases hq : qs[i]? with
    | none => exact .inl rfl
    | some q =>
      have hi := (List.getElem?_eq_some_iff.1 hq).1
      have := hc.2.2 i hi
      rw [List.getElem?_eq_getElem hi] at hq
      obtain rfl := Option.some.inj hq
      exact behind_reg this ha hk
  · cases i with
    | zero => simp [copies0] at hi; subst hi; exact .inr self_reg
    | succ i =>
      simp only [copies0, List.getElem?_cons_succ, List.getElem?_replicate] at hi
      split at hi
      · obtain rfl := Option.some.inj hi; exact .inl rfl
      · cases hi
theorem readC_op (q : Qd) (cs : List Int) : (readC q cs).op = q.op := by
  unfold readC
  split
  · rfl
  · split <;> rfl
theorem readC_valid {q : Qd} {m : Int} {cs : List Int} (h : quadValid q m = true) (hc : regC cs) : quadValid (readC q cs) m = true := by
  obtain ⟨ga, gb⟩ := valid_regs h
  obtain ⟨a1, a2⟩ := hc q.a.toNat (by omega)
  obtain ⟨b1, b2⟩ := hc q.b.toNat (by omega)
  have ra : isReg (iAt cs q.a.toNat) = true := by simp [isReg, a1, a2]
  have rb : isReg (iAt cs q.b.toNat) = true := by simp [isReg, b1, b2]
  unfold readC
  split
  · rename_i ho
    rcases ho with ho | ho | ho | ho
    all_goals
      simp only [quadValid, ho] at h ⊢
      simp at h ⊢
      simp [h, ra]
  · split
    · rename_i ho
      simp only [quadValid, ho] at h ⊢
      simp at h ⊢
      simp [h, ra, rb]
    · exact h
theorem copyCode_valid {qs : List Qd} (hv : codeValid qs = true) : codeValid (copyCode qs) = true := by
  obtain ⟨c1, c2, c3⟩ := code_at hv
  obtain ⟨fl, fo⟩ := copies_reg hv
  have e : copyCode qs = (List.range qs.length).map fun i => readC (qAt qs i) (csAt (copiesOf qs) i) := by simp [copyCode, hv]
  have hl : (copyCode qs).length = qs.length := by rw [e]; simp
  have hget : ∀ i (hi : i < qs.length), (copyCode qs)[i]'(by omega) = readC qs[i] (csAt (copiesOf qs) i) := by
    intro i hi
    simp only [e, List.getElem_map, List.getElem_range, qAt_eq hi]
  have hok : ∀ i, i < qs.length → regC (csAt (copiesOf qs) i) := by
    intro i hi
    have : (copiesOf qs)[i]? = some (copiesOf qs)[i] := List.getElem?_eq_getElem (by omega)
    simp only [csAt, this, Option.getD_some]
    exact fo i _ this
  refine code_mk (by omega) (by omega) (fun i hi => ?_) ?_
  · have hi' : i < qs.length := by omega
    rw [hget i hi', hl]
    exact readC_valid (c3 i hi') (hok i hi')
  · have hi' : qs.length - 1 < qs.length := by omega
    have hlast := code_last hv
    rw [opAt_eq hi'] at hlast
    rw [hl, opAt_eq (by omega), hget _ hi', readC_op]
    exact hlast
theorem follow_in {qs : List Qd} (hv : codeValid qs = true) {at_ : Int} (h0 : 0 ≤ at_ ∧ at_ < qs.length) : ∀ (n : Nat) (x : Int), 0 ≤ x ∧ x < qs.length → 0 ≤ follow qs at_ n x ∧ follow qs at_ n x < qs.length
  | 0, x, _ => h0
  | n + 1, x, hx => by
    simp only [follow]
    split
    · rename_i ho
      have hi : x.toNat < qs.length := by omega
      rw [opAt_eq hi] at ho
      refine follow_in hv h0 n _ ?_
      rw [nAt_eq hi]
      exact jump_in ((code_at hv).2.2 _ hi) ho
    · exact hx
theorem target_in {qs : List Qd} (hv : codeValid qs = true) {x : Int} (h0 : 0 ≤ x ∧ x < qs.length) : 0 ≤ target qs x ∧ target qs x < qs.length := follow_in hv h0 _ _ h0
theorem jumped_op (qs : List Qd) (q : Qd) : (jumped qs q).op = q.op := by unfold jumped; split <;> rfl
theorem jumped_valid {qs : List Qd} (hv : codeValid qs = true) {q : Qd} (h : quadValid q qs.length = true) : quadValid (jumped qs q) qs.length = true := by
  unfold jumped
  split
  · rename_i ho
    rcases ho with ho | ho
    all_goals
      simp only [quadValid, ho] at h ⊢
      simp at h ⊢
      have := target_in hv (x := q.n) (by omega)
      simp [h]; omega
  · exact h
theorem jumpCode_valid {qs : List Qd} (hv : codeValid qs = true) : codeValid (jumpCode qs) = true := by
  obtain ⟨c1, c2, c3⟩ := code_at hv
  have e : jumpCode qs = qs.map (jumped qs) := by simp [jumpCode, hv]
  have hl : (jumpCode qs).length = qs.length := by rw [e]; simp
  have hget : ∀ i (hi : i < qs.length), (jumpCode qs)[i]'(by omega) = jumped qs qs[i] := by
    intro i hi
    simp only [e, List.getElem_map]
  refine code_mk (by omega) (by omega) (fun i hi => ?_) ?_
  · have hi' : i < qs.length := by omega
    rw [hget i hi', hl]
    exact jumped_valid hv (c3 i hi')
  · have hi' : qs.length - 1 < qs.length := by omega
    have hlast := code_last hv
    rw [opAt_eq hi'] at hlast
    rw [hl, opAt_eq (by omega), hget _ hi', jumped_op]
    exact hlast
theorem deadCode_valid {qs : List Qd} (hv : codeValid qs = true) : codeValid (deadCode qs) = true := by
  obtain ⟨c1, c2, c3⟩ := code_at hv
  have e : deadCode qs = (List.range qs.length).map fun i => if dead qs i then jumpQ i else qAt qs i := by simp [deadCode, hv]
  have hl : (deadCode qs).length = qs.length := by rw [e]; simp
  have hget : ∀ i (hi : i < qs.length), (deadCode qs)[i]'(by omega) = if dead qs i then jumpQ i else qs[i] := by
    intro i hi
    simp only [e, List.getElem_map, List.getElem_range, qAt_eq hi]
  have hd : ∀ i (hi : i < qs.length), dead qs i = true → qs[i].op = 1 ∨ qs[i].op = 2 ∨ qs[i].op = 3 := by
    intro i hi h
    rw [dead_eq hi] at h
    simp only [isDead, Bool.and_eq_true, decide_eq_true_eq] at h
    exact h.1
  refine code_mk (by omega) (by omega) (fun i hi => ?_) ?_
  · have hi' : i < qs.length := by omega
    rw [hget i hi', hl]
    split
    · have ho := hd i hi' ‹_›
      have := code_next hv hi' (by omega) (by omega)
      have h2 : (i : Int) + 1 < qs.length := by omega
      have h3 : 0 ≤ (i : Int) + 1 := by omega
      simp [quadValid, jumpQ, h2, h3]
    · exact c3 i hi'
  · have hi' : qs.length - 1 < qs.length := by omega
    have hlast := code_last hv
    rw [opAt_eq hi'] at hlast
    rw [hl, opAt_eq (by omega), hget _ hi']
    rw [if_neg]
    · exact hlast
    · intro h
      have := hd _ hi' h
      omega
theorem next_mem {q : Qd} {i : Int} {x : Int} : x ∈ nextL q i ↔ (q.op ≠ 10 ∧ ((q.op = 4 ∨ q.op = 5) ∧ x = q.n ∨ q.op ≠ 4 ∧ x = i + 1)) := by
  simp only [nextL]
  split
  · rename_i h; simp [h]
  · split
    · rename_i h; simp [h]
    · split
      · rename_i h; simp only [List.mem_cons, List.not_mem_nil, or_false]; omega
      · split
        · rename_i h; simp only [List.mem_cons, List.not_mem_nil, or_false]; omega
        · simp only [List.mem_cons, List.not_mem_nil, or_false]; omega
open Classical in
theorem keep_true {qs : List Qd} {k : Nat} (h : (keep qs)[k]? = some true) : k < qs.length ∧ Reach qs k ∧ ∀ hk : k < qs.length, idle qs[k] k = false := by
  have hk : k < qs.length := by
    have := (List.getElem?_eq_some_iff.1 h).1
    simpa [keep] using this
  have hr : (reachL qs)[k]? = some (decide (Reach qs k)) := by simp [reachL, hk]
  rw [keep_at hk hr] at h
  simp only [Option.some.injEq, Bool.and_eq_true, decide_eq_true_eq, Bool.not_eq_true'] at h
  exact ⟨hk, h.1, fun _ => h.2⟩
open Classical in
theorem keep_of {qs : List Qd} {k : Nat} (hk : k < qs.length) (h : Reach qs k) (hi : idle qs[k] k = false) : (keep qs)[k]? = some true := by
  have hr : (reachL qs)[k]? = some (decide (Reach qs k)) := by simp [reachL, hk]
  rw [keep_at hk hr]
  simp [h, hi]
theorem idle_next {q : Qd} {i : Int} (h : idle q i = true) : (i + 1) ∈ nextL q i := by
  simp only [idle] at h
  split at h
  · rename_i ho
    simp only [beq_iff_eq] at h
    rcases ho with ho | ho
    · simp [nextL, ho, h]
    · simp [nextL, ho, h]
  · split at h
    · rename_i ho; simp [nextL, ho]
    · cases h
/-- A reachable quad is followed, or is, one that is kept. -/
theorem keep_past {qs : List Qd} (hv : codeValid qs = true) : ∀ (d t : Nat), qs.length - t ≤ d → Reach qs t → ∃ j, t ≤ j ∧ (keep qs)[j]? = some true
  | 0, t, hd, h => by have := reach_lt hv h; omega
  | d + 1, t, hd, h => by
    have ht := reach_lt hv h
    cases hi : idle qs[t] t with
    | false => exact ⟨t, Nat.le_refl _, keep_of ht h hi⟩
    | true =>
      have := idle_next hi
      obtain ⟨j, h1, h2⟩ := keep_past hv d (t + 1) (by omega) (.next h (by rw [nextAt_eq ht]; exact_mod_cast this))
      exact ⟨j, by omega, h2⟩
theorem idx_sorted (ks : List Bool) (n : Nat) : (idx ks n).Pairwise (· < ·) := List.Pairwise.filter _ List.pairwise_lt_range
theorem idx_has {ks : List Bool} {n i : Nat} (hi : i < n) (h : ks[i]? = some true) : i ∈ idx ks n := by
  simp [idx, hi, h]
theorem idx_split (ks : List Bool) {k n : Nat} (h : k ≤ n) : ∃ r, idx ks n = idx ks k ++ r ∧ ∀ i ∈ r, k ≤ i := by
  induction n with
  | zero => exact ⟨[], by rw [show k = 0 by omega]; simp, by simp⟩
  | succ n ih =>
    by_cases hk : k = n + 1
    · subst hk; exact ⟨[], by simp, by simp⟩
    · obtain ⟨r, e, hr⟩ := ih (by omega)
      cases hks : (ks[n]?).getD false with
      | false =>
        refine ⟨r, ?_, hr⟩
        rw [← e]
        simp [idx, List.range_succ, List.filter_append, hks]
      | true =>
        refine ⟨r ++ [n], ?_, fun i hi => ?_⟩
        · rw [← List.append_assoc, ← e]
          simp [idx, List.range_succ, List.filter_append, hks]
        · rcases List.mem_append.1 hi with hi | hi
          · exact hr i hi
          · simp at hi; omega
theorem place_lt {ks : List Bool} {t j n : Nat} (h1 : t ≤ j) (h2 : j < n) (h : ks[j]? = some true) : place ks t < place ks n := by
  obtain ⟨r, e, hr⟩ := idx_split ks (show t ≤ n by omega)
  have hj : j ∈ idx ks n := idx_has h2 h
  rw [e] at hj
  have hj' : j ∈ r := by
    rcases List.mem_append.1 hj with hj | hj
    · have := (idx_mem hj).1; omega
    · exact hj
  simp only [place, e, List.length_append]
  have : 0 < r.length := List.length_pos_of_mem hj'
  omega
theorem squeeze_len {qs : List Qd} (hv : codeValid qs = true) : (squeeze qs).length = place (keep qs) qs.length := by simp [squeeze, hv, place]
theorem moved_op (ks : List Bool) (q : Qd) : (moved ks q).op = q.op := by unfold moved; split <;> rfl
theorem squeeze_get {qs : List Qd} (hv : codeValid qs = true) {p : Nat} (hp : p < (squeeze qs).length) : ∃ i, (idx (keep qs) qs.length)[p]? = some i ∧ ∃ hi : i < qs.length, (keep qs)[i]? = some true ∧ (squeeze qs)[p] = moved (keep qs) qs[i] := by
  have hl : (squeeze qs).length = (idx (keep qs) qs.length).length := by simp [squeeze, hv]
  have hp' : p < (idx (keep qs) qs.length).length := by omega
  obtain ⟨h1, h2⟩ := idx_mem (List.getElem_mem hp')
  refine ⟨_, List.getElem?_eq_getElem hp', h1, h2, ?_⟩
  have e : squeeze qs = (idx (keep qs) qs.length).map fun i => moved (keep qs) (qAt qs i) := by simp [squeeze, hv]
  simp only [e, List.getElem_map, qAt_eq h1]
theorem squeeze_valid {qs : List Qd} (hv : codeValid qs = true) : codeValid (squeeze qs) = true := by
  obtain ⟨c1, c2, c3⟩ := code_at hv
  have hl := squeeze_len hv
  have hle := squeeze_le qs
  have past : ∀ t, Reach qs t → place (keep qs) t < place (keep qs) qs.length := by
    intro t ht
    obtain ⟨j, h1, h2⟩ := keep_past hv _ t (Nat.le_refl _) ht
    exact place_lt h1 (keep_true h2).1 h2
  have h1 : 1 ≤ (squeeze qs).length := by have := past 0 .zero; omega
  refine code_mk h1 hle (fun p hp => ?_) ?_
  · obtain ⟨i, _, hi, hk, e⟩ := squeeze_get hv hp
    rw [e]
    obtain ⟨_, hR, hid⟩ := keep_true hk
    have hid := hid hi
    have hq := c3 i hi
    unfold moved
    split
    · rename_i ho
      have hn : 0 ≤ qs[i].n ∧ qs[i].n < qs.length := by
        rcases ho with ho | ho
        all_goals
          simp only [quadValid, ho] at hq
          simp at hq
          omega
      have hnx : qs[i].n ∈ nextL qs[i] i := by
        simp only [idle, if_pos ho] at hid
        have hne : qs[i].n ≠ (i : Int) + 1 := by simpa using hid
        rw [next_mem]; omega
      have ht : Reach qs qs[i].n.toNat := .next hR (by rw [nextAt_eq hi, Int.toNat_of_nonneg hn.1]; exact hnx)
      have hp2 := past _ ht
      rcases ho with ho | ho
      all_goals
        simp only [quadValid, ho] at hq ⊢
        simp at hq ⊢
        simp [hq]; omega
    · rename_i ho
      simp only [quadValid] at hq ⊢
      repeat' split at hq
      all_goals first
        | (cases hq; done)
        | (simp_all; done)
        | (exfalso; omega)
  · obtain ⟨i, hx, hi, hk, e⟩ := squeeze_get hv (p := (squeeze qs).length - 1) (by omega)
    rw [opAt_eq (by omega), e, moved_op]
    refine Classical.byContradiction fun hno => ?_
    obtain ⟨_, hR, _⟩ := keep_true hk
    have hnx : ((i : Int) + 1) ∈ nextL qs[i] i := by
      simp only [nextL]
      rw [if_neg (by omega), if_neg (by omega)]
      repeat' split
      all_goals simp
    obtain ⟨j, h1, h2⟩ := keep_past hv _ (i + 1) (Nat.le_refl _) (.next hR (by rw [nextAt_eq hi]; exact_mod_cast hnx))
    have hj := idx_has (keep_true h2).1 h2
    obtain ⟨p, hp, hpe⟩ := List.getElem_of_mem hj
    have hlen : (squeeze qs).length = (idx (keep qs) qs.length).length := by simp [squeeze, hv]
    rw [List.getElem?_eq_getElem (by omega)] at hx
    have hx := Option.some.inj hx
    by_cases hpl : p = (squeeze qs).length - 1
    · subst hpl; omega
    · have := List.pairwise_iff_getElem.1 (idx_sorted (keep qs) qs.length) p ((squeeze qs).length - 1) hp (by omega) (by omega)
      omega
noncomputable def once (qs : List Qd) : List Qd := squeeze (deadCode (jumpCode (copyCode (foldCode qs))))
theorem once_valid {qs : List Qd} (hv : codeValid qs = true) : codeValid (once qs) = true := squeeze_valid (deadCode_valid (jumpCode_valid (copyCode_valid (foldCode_valid hv))))
end Go.Proofs.YtodhkodhndbpmaaGreat
namespace Go.Proofs.YtodhkodhndbpmaaGreat
set_option linter.all false
open Go Go.RowKit
set_option maxRecDepth 100000
variable (w0 : World) (H : AHeap) (K : Value → AHeap → Prop)
theorem quads_oc (qs : List Qd) : ∀ v ∈ qcells qs, v.oneCell' = true := by
  intro v hv
  simp only [qcells, List.mem_flatMap] at hv
  obtain ⟨q, _, hv⟩ := hv
  exact q5_oc q v hv
theorem l37Once_ok (A : Option Addr) (c : Nat) (qs : List Qd) (hx : Fl H A (qcells qs)) (hv : codeValid qs = true) (h : ∀ v C, Row H C 36 5 v (once qs).length (qcells (once qs)) → K v C) :
    ACalls Tryz.prog w0 65 [.slice A qs.length c] H K := by
  have v1 := foldCode_valid hv
  have v2 := copyCode_valid v1
  have v3 := jumpCode_valid v2
  have v4 := deadCode_valid v3
  have n2 := (code_at v2).2.1
  refine acalls_of_sx mix Tryz.func65 of65 (by simp [ir65]) ?_; rw [ir65]; (try delta qT qI qC qO qM qG)
  repeat' (first | simp -implicitDefEqProofs only [zG1,zG2,zG3,zG4,zG5,zG6,zG7,eq_self,resV,rval,X.val,binv,fillL,setR,↓reduceIte,Nat.reduceEqDiff,Nat.reduceAdd,Nat.reduceMul,Nat.reduceLeDiff,Nat.reduceLT,Nat.reduceSub,reduceCtorEq,zGq] | ((with_reducible refine rows_intro (fun _ hb => ?_)); try simp only [set_none, ne_eq] at hb) | ((with_reducible refine new_intro (fun _ hb => ?_)); try simp only [set_none, ne_eq] at hb) | (with_reducible refine draw_same ?_) | ((with_reducible refine gd_split ?_ (fun _ => ?_) (fun _ => ?_)); exact rfl) | ((with_reducible refine td_split ?_ (fun _ => ?_) (fun _ => ?_)); exact rfl) | (with_reducible refine c_split (fun _ => ?_) (fun _ => ?_)))
  refine foldCodeS_ok _ _ _ A c qs hx (fun u1 C1 b1 l1 m1 r1 => ?_)
  obtain ⟨A1, c1, rfl, f1⟩ := r1.fl
  repeat' (first | simp -implicitDefEqProofs only [zG1,zG2,zG3,zG4,zG5,zG6,zG7,eq_self,resV,rval,X.val,binv,fillL,setR,↓reduceIte,Nat.reduceEqDiff,Nat.reduceAdd,Nat.reduceMul,Nat.reduceLeDiff,Nat.reduceLT,Nat.reduceSub,reduceCtorEq,zGq] | ((with_reducible refine rows_intro (fun _ hb => ?_)); try simp only [set_none, ne_eq] at hb) | ((with_reducible refine new_intro (fun _ hb => ?_)); try simp only [set_none, ne_eq] at hb) | (with_reducible refine draw_same ?_) | ((with_reducible refine gd_split ?_ (fun _ => ?_) (fun _ => ?_)); exact rfl) | ((with_reducible refine td_split ?_ (fun _ => ?_) (fun _ => ?_)); exact rfl) | (with_reducible refine c_split (fun _ => ?_) (fun _ => ?_)))
  refine copyCodeS_ok _ _ _ A1 c1 _ f1 (fun u2 C2 b2 l2 m2 r2 => ?_)
  obtain ⟨A2, c2, rfl, f2⟩ := r2.fl
  repeat' (first | simp -implicitDefEqProofs only [zG1,zG2,zG3,zG4,zG5,zG6,zG7,eq_self,resV,rval,X.val,binv,fillL,setR,↓reduceIte,Nat.reduceEqDiff,Nat.reduceAdd,Nat.reduceMul,Nat.reduceLeDiff,Nat.reduceLT,Nat.reduceSub,reduceCtorEq,zGq] | ((with_reducible refine rows_intro (fun _ hb => ?_)); try simp only [set_none, ne_eq] at hb) | ((with_reducible refine new_intro (fun _ hb => ?_)); try simp only [set_none, ne_eq] at hb) | (with_reducible refine draw_same ?_) | ((with_reducible refine gd_split ?_ (fun _ => ?_) (fun _ => ?_)); exact rfl) | ((with_reducible refine td_split ?_ (fun _ => ?_) (fun _ => ?_)); exact rfl) | (with_reducible refine c_split (fun _ => ?_) (fun _ => ?_)))
  refine jumpCodeS_ok _ _ _ A2 c2 _ f2 (by omega) (rw_of fun u3 C3 b3 l3 m3 r3 => ?_)
  obtain ⟨A3, c3, rfl, f3⟩ := r3.fl
  repeat' (first | simp -implicitDefEqProofs only [zG1,zG2,zG3,zG4,zG5,zG6,zG7,eq_self,resV,rval,X.val,binv,fillL,setR,↓reduceIte,Nat.reduceEqDiff,Nat.reduceAdd,Nat.reduceMul,Nat.reduceLeDiff,Nat.reduceLT,Nat.reduceSub,reduceCtorEq,zGq] | ((with_reducible refine rows_intro (fun _ hb => ?_)); try simp only [set_none, ne_eq] at hb) | ((with_reducible refine new_intro (fun _ hb => ?_)); try simp only [set_none, ne_eq] at hb) | (with_reducible refine draw_same ?_) | ((with_reducible refine gd_split ?_ (fun _ => ?_) (fun _ => ?_)); exact rfl) | ((with_reducible refine td_split ?_ (fun _ => ?_) (fun _ => ?_)); exact rfl) | (with_reducible refine c_split (fun _ => ?_) (fun _ => ?_)))
  refine deadCodeS_ok _ _ _ A3 c3 _ f3 (fun u4 C4 b4 l4 m4 r4 => ?_)
  obtain ⟨A4, c4, rfl, f4⟩ := r4.fl
  repeat' (first | simp -implicitDefEqProofs only [zG1,zG2,zG3,zG4,zG5,zG6,zG7,eq_self,resV,rval,X.val,binv,fillL,setR,↓reduceIte,Nat.reduceEqDiff,Nat.reduceAdd,Nat.reduceMul,Nat.reduceLeDiff,Nat.reduceLT,Nat.reduceSub,reduceCtorEq,zGq] | ((with_reducible refine rows_intro (fun _ hb => ?_)); try simp only [set_none, ne_eq] at hb) | ((with_reducible refine new_intro (fun _ hb => ?_)); try simp only [set_none, ne_eq] at hb) | (with_reducible refine draw_same ?_) | ((with_reducible refine gd_split ?_ (fun _ => ?_) (fun _ => ?_)); exact rfl) | ((with_reducible refine td_split ?_ (fun _ => ?_) (fun _ => ?_)); exact rfl) | (with_reducible refine c_split (fun _ => ?_) (fun _ => ?_)))
  refine squeezeCodeS_ok _ _ _ A4 c4 _ f4 (fun u5 C5 b5 l5 m5 r5 => ?_)
  repeat' (first | simp -implicitDefEqProofs only [zG1,zG2,zG3,zG4,zG5,zG6,zG7,eq_self,resV,rval,X.val,binv,fillL,setR,↓reduceIte,Nat.reduceEqDiff,Nat.reduceAdd,Nat.reduceMul,Nat.reduceLeDiff,Nat.reduceLT,Nat.reduceSub,reduceCtorEq,zGq] | ((with_reducible refine rows_intro (fun _ hb => ?_)); try simp only [set_none, ne_eq] at hb) | ((with_reducible refine new_intro (fun _ hb => ?_)); try simp only [set_none, ne_eq] at hb) | (with_reducible refine draw_same ?_) | ((with_reducible refine gd_split ?_ (fun _ => ?_) (fun _ => ?_)); exact rfl) | ((with_reducible refine td_split ?_ (fun _ => ?_) (fun _ => ?_)); exact rfl) | (with_reducible refine c_split (fun _ => ?_) (fun _ => ?_)))
  have l := l1.trans (l2.trans (l3.trans l4))
  exact ret_same (h _ _ ⟨b5, l.trans l5, m5.le l, r5⟩)
theorem optimizeS_ok (A : Option Addr) (c : Nat) (qs : List Qd) (t : Nat) (ht : t ≤ 4) (hx : Fl H A (qcells qs)) (hv : codeValid qs = true) (h : ∀ qs' v C, codeValid qs' = true → Row H C 36 5 v qs'.length (qcells qs') → K (.tuple #[v, .bool true]) C) :
    ACalls Tryz.prog w0 58 [.slice A qs.length c, .int .i64 t] H K := by
  have hc := code_at hv
  have g1 : (decide (0 ≤ (t : Int)) && decide ((t : Int) ≤ 4)) = true := by simp; omega
  refine acalls_of_sx mix Tryz.func58 of58 (by simp [ir58]) ?_; rw [ir58]; (try delta qT qI qC qO qM qG)
  repeat' (first | simp -implicitDefEqProofs only [zG1,zG2,zG3,zG4,zG5,zG6,zG7,eq_self,resV,rval,X.val,binv,fillL,setR,↓reduceIte,Nat.reduceEqDiff,Nat.reduceAdd,Nat.reduceMul,Nat.reduceLeDiff,Nat.reduceLT,Nat.reduceSub,reduceCtorEq,zGq, hv, g1] | ((with_reducible refine rows_intro (fun _ hb => ?_)); try simp only [set_none, ne_eq] at hb) | ((with_reducible refine new_intro (fun _ hb => ?_)); try simp only [set_none, ne_eq] at hb) | (with_reducible refine draw_same ?_) | ((with_reducible refine gd_split ?_ (fun _ => ?_) (fun _ => ?_)); exact rfl) | ((with_reducible refine td_split ?_ (fun _ => ?_) (fun _ => ?_)); exact rfl) | (with_reducible refine c_split (fun _ => ?_) (fun _ => ?_)) | (with_reducible refine codeValidS_ok _ _ _ A c qs hx ?_) | (with_reducible refine l6In_ok _ _ _ _ _ _ ?_))
  have hb1 := hb
  refine (Row.lit0 (H := H) (t := 36) (sz := 5) hb1).app (hx.fresh hb1 _) (qcells_len qs) (quads_oc _) (by simp only [maxLen]; omega) (by omega) (fun v1 C1 r1 => ?_)
  rw [Nat.zero_add, List.nil_append] at r1
  repeat' (first | simp -implicitDefEqProofs only [zG1,zG2,zG3,zG4,zG5,zG6,zG7,eq_self,resV,rval,X.val,binv,fillL,setR,↓reduceIte,Nat.reduceEqDiff,Nat.reduceAdd,Nat.reduceMul,Nat.reduceLeDiff,Nat.reduceLT,Nat.reduceSub,reduceCtorEq,zGq] | ((with_reducible refine rows_intro (fun _ hb => ?_)); try simp only [set_none, ne_eq] at hb) | ((with_reducible refine new_intro (fun _ hb => ?_)); try simp only [set_none, ne_eq] at hb) | (with_reducible refine draw_same ?_) | ((with_reducible refine gd_split ?_ (fun _ => ?_) (fun _ => ?_)); exact rfl) | ((with_reducible refine td_split ?_ (fun _ => ?_) (fun _ => ?_)); exact rfl) | (with_reducible refine c_split (fun _ => ?_) (fun _ => ?_)))
  refine for_rule t (fun k fr C => ∃ qs' v, codeValid qs' = true ∧ Row H C 36 5 v qs'.length (qcells qs') ∧ fr 1 = .int .i64 t ∧ fr 6 = v ∧ fr 7 = .int .i64 k)
    ⟨_, _, hv, r1, (by first | rfl | (simp only [put_at, ↓reduceIte, Nat.reduceEqDiff]; first | done | rfl | assumption) | simp [put_at, *]), (by first | rfl | (simp only [put_at, ↓reduceIte, Nat.reduceEqDiff]; first | done | rfl | assumption) | simp [put_at, *]), (by first | rfl | (simp only [put_at, ↓reduceIte, Nat.reduceEqDiff]; first | done | rfl | assumption) | simp [put_at, *])⟩ ?_ ?_
  · rintro k fr C hk ⟨qs', v, hv', r, f1, f6, f7⟩ N hN
    obtain ⟨A6, e6, rfl, f⟩ := r.fl
    have g0 := lt_dec hk
    have g2 := up1 hk (by omega)
    repeat' (first | simp -implicitDefEqProofs only [zG1,zG2,zG3,zG4,zG5,zG6,zG7,eq_self,resV,rval,X.val,binv,fillL,setR,↓reduceIte,Nat.reduceEqDiff,Nat.reduceAdd,Nat.reduceMul,Nat.reduceLeDiff,Nat.reduceLT,Nat.reduceSub,reduceCtorEq,zGq, f1, f6, f7, g0, g2] | ((with_reducible refine rows_intro (fun _ hb => ?_)); try simp only [set_none, ne_eq] at hb) | ((with_reducible refine new_intro (fun _ hb => ?_)); try simp only [set_none, ne_eq] at hb) | (with_reducible refine draw_same ?_) | ((with_reducible refine gd_split ?_ (fun _ => ?_) (fun _ => ?_)); exact rfl) | ((with_reducible refine td_split ?_ (fun _ => ?_) (fun _ => ?_)); exact rfl) | (with_reducible refine c_split (fun _ => ?_) (fun _ => ?_)) | (with_reducible refine l37Once_ok _ _ _ A6 e6 qs' f hv' (fun v2 C2 r2 => ?_)))
    exact hN _ _ _ (.refl _) ⟨_, _, once_valid hv', r2.base r.hle, (by first | rfl | (simp only [put_at, ↓reduceIte, Nat.reduceEqDiff]; first | done | rfl | assumption) | simp [put_at, *]), (by first | rfl | (simp only [put_at, ↓reduceIte, Nat.reduceEqDiff]; first | done | rfl | assumption) | simp [put_at, *]), (by first | rfl | (simp only [put_at, ↓reduceIte, Nat.reduceEqDiff]; first | done | rfl | assumption) | simp [put_at, *])⟩
  · rintro fr C ⟨qs', v, hv', r, f1, f6, f7⟩ N
    have g0 : decide ((t : Int) < (t : Int)) = false := by simp
    repeat' (first | simp -implicitDefEqProofs only [zG1,zG2,zG3,zG4,zG5,zG6,zG7,eq_self,resV,rval,X.val,binv,fillL,setR,↓reduceIte,Nat.reduceEqDiff,Nat.reduceAdd,Nat.reduceMul,Nat.reduceLeDiff,Nat.reduceLT,Nat.reduceSub,reduceCtorEq,zGq, f1, f6, f7, g0] | ((with_reducible refine rows_intro (fun _ hb => ?_)); try simp only [set_none, ne_eq] at hb) | ((with_reducible refine new_intro (fun _ hb => ?_)); try simp only [set_none, ne_eq] at hb) | (with_reducible refine draw_same ?_) | ((with_reducible refine gd_split ?_ (fun _ => ?_) (fun _ => ?_)); exact rfl) | ((with_reducible refine td_split ?_ (fun _ => ?_) (fun _ => ?_)); exact rfl) | (with_reducible refine c_split (fun _ => ?_) (fun _ => ?_)))
    exact ret_same (h _ _ _ hv' r)
end Go.Proofs.YtodhkodhndbpmaaGreat
namespace Go.Proofs.YtodhkodhndbpmaaGreat
set_option linter.all false
open Go Go.RowKit
set_option maxRecDepth 100000
variable (w0 : World)
/-- What a draw of a code owes. -/
abbrev OutC (S : Src) (b : Nat) (H : AHeap) (p : Int) (pm : Nat) (P : List Qd → Prop) (K : Value → AHeap → Prop) : Prop :=
  ∀ qs v bs C' p', RdK S C' b p' → Dr H C' b → New H bs → Rw C' 36 5 v qs.length (qcells qs) bs → P qs → p ≤ p' → p' ≤ p + pm → K v C'
theorem random_valid {qs : List Qd} {m : Nat} {q : Qd} (hm : qs.length + 1 = m) (hm6 : m ≤ 600) (h : ∀ i (hi : i < qs.length), quadValid qs[i] m = true) (hq : quadValid q m = true) (ho : q.op = 10 ∨ q.op = 4) : codeValid (qs ++ [q]) = true := by
  have hl : (qs ++ [q]).length = m := by simp; omega
  refine code_mk (by omega) (by omega) (fun i hi => ?_) ?_
  · rw [hl]
    by_cases hi' : i < qs.length
    · rw [List.getElem_append_left hi']; exact h i hi'
    · rw [List.getElem_append_right (by omega)]
      simp only [show i - qs.length = 0 by omega, List.getElem_cons_zero]
      exact hq
  · rw [hl, opAt_eq (by omega), List.getElem_append_right (by omega)]
    simp only [show m - 1 - qs.length = 0 by omega, List.getElem_cons_zero]
    exact ho
theorem l93Random_ok (S : Src) (b : Nat) (H : AHeap) (K : Value → AHeap → Prop) (p : Int) (hr : RdK S H b p) (h0 : 0 ≤ p) (h1 : p ≤ 1099511300000) (h : OutC S b H p 200 (fun qs => codeValid qs = true) K) :
    ACalls Tryz.prog w0 55 [.pointer (some ⟨b, 0, none⟩)] H K := by
  refine acalls_of_sx mix Tryz.func55 of55 (by simp [ir55]) ?_; rw [ir55]; (try delta qT qI qC qO qM qG)
  repeat' (first | simp -implicitDefEqProofs only [zG1,zG2,zG3,zG4,zG5,zG6,zG7,eq_self,resV,rval,X.val,binv,fillL,setR,↓reduceIte,Nat.reduceEqDiff,Nat.reduceAdd,Nat.reduceMul,Nat.reduceLeDiff,Nat.reduceLT,Nat.reduceSub,reduceCtorEq,zGq] | ((with_reducible refine rows_intro (fun _ hb => ?_)); try simp only [set_none, ne_eq] at hb) | ((with_reducible refine new_intro (fun _ hb => ?_)); try simp only [set_none, ne_eq] at hb) | (with_reducible refine draw_same ?_) | ((with_reducible refine gd_split ?_ (fun _ => ?_) (fun _ => ?_)); exact rfl) | ((with_reducible refine td_split ?_ (fun _ => ?_) (fun _ => ?_)); exact rfl) | (with_reducible refine c_split (fun _ => ?_) (fun _ => ?_)))
  refine pickK_ok _ _ hr 14 (by omega) (by omega) (by decide) (fun u C1 r1 d1 hu0 hu1 => ?_)
  obtain ⟨j, rfl⟩ := nat3 hu0
  have w1 := one_add (j := j) (by omega)
  repeat' (first | simp -implicitDefEqProofs only [zG1,zG2,zG3,zG4,zG5,zG6,zG7,eq_self,resV,rval,X.val,binv,fillL,setR,↓reduceIte,Nat.reduceEqDiff,Nat.reduceAdd,Nat.reduceMul,Nat.reduceLeDiff,Nat.reduceLT,Nat.reduceSub,reduceCtorEq,zGq, w1] | ((with_reducible refine rows_intro (fun _ hb => ?_)); try simp only [set_none, ne_eq] at hb) | ((with_reducible refine new_intro (fun _ hb => ?_)); try simp only [set_none, ne_eq] at hb) | (with_reducible refine draw_same ?_) | ((with_reducible refine gd_split ?_ (fun _ => ?_) (fun _ => ?_)); exact rfl) | ((with_reducible refine td_split ?_ (fun _ => ?_) (fun _ => ?_)); exact rfl) | (with_reducible refine c_split (fun _ => ?_) (fun _ => ?_)))
  have hb1 := hb
  have l1 := (AHeap.le.refl C1).fresh hb1 ⟨[], true, 36, 0⟩
  refine for_rule j (fun k fr C => ∃ qs v bs p', RdK S C b p' ∧ Dr H C b ∧ New H bs ∧ Rw C 36 5 v qs.length (qcells qs) bs ∧ qs.length = k ∧ (∀ i (hi : i < qs.length), quadValid qs[i] ((1 + j : Nat) : Int) = true) ∧ p ≤ p' ∧ p' ≤ p + 1 + 8 * k ∧
      fr 0 = .pointer (some ⟨b, 0, none⟩) ∧ fr 3 = .int .i64 ((1 + j : Nat) : Int) ∧ fr 4 = v ∧ fr 5 = .int .i64 k)
    ⟨[], _, [_], p + 1, r1.fresh hb1 _, d1.then_le l1, New.one (d1.nov hb1), Rw.mk (cap := 0) (by rw [Nat.zero_mul]; exact Kn.same _ _ _) (by simp [qcells]) (by simp) (by decide), rfl, fun i hi => by simp at hi, by omega, by omega, (by first | rfl | (simp only [put_at, ↓reduceIte, Nat.reduceEqDiff]; first | done | rfl | assumption) | simp [put_at, *]), (by first | rfl | (simp only [put_at, ↓reduceIte, Nat.reduceEqDiff]; first | done | rfl | assumption) | simp [put_at, *]), (by first | rfl | (simp only [put_at, ↓reduceIte, Nat.reduceEqDiff]; first | done | rfl | assumption) | simp [put_at, *]), (by first | rfl | (simp only [put_at, ↓reduceIte, Nat.reduceEqDiff]; first | done | rfl | assumption) | simp [put_at, *])⟩ ?_ ?_
  · rintro k fr C hk ⟨qs, v, bs, p', hrc, hd, hnb, hw, hl, hv, hp0, hp1, f0, f3, f4, f5⟩ N hN
    obtain ⟨A1, c1, rfl, -⟩ := hw.fl
    have hbs : ¬ b ∈ bs := fun hm => hd.b0 (hnb b hm)
    have g2 := up1 hk (by omega)
    have g0 : decide (((k + 1 : Nat) : Int) < ((1 + j : Nat) : Int)) = true := by simp; omega
    repeat' (first | simp -implicitDefEqProofs only [zG1,zG2,zG3,zG4,zG5,zG6,zG7,eq_self,resV,rval,X.val,binv,fillL,setR,↓reduceIte,Nat.reduceEqDiff,Nat.reduceAdd,Nat.reduceMul,Nat.reduceLeDiff,Nat.reduceLT,Nat.reduceSub,reduceCtorEq,zGq, f0, f3, f4, f5, g0, g2] | ((with_reducible refine rows_intro (fun _ hb => ?_)); try simp only [set_none, ne_eq] at hb) | ((with_reducible refine new_intro (fun _ hb => ?_)); try simp only [set_none, ne_eq] at hb) | (with_reducible refine draw_same ?_) | ((with_reducible refine gd_split ?_ (fun _ => ?_) (fun _ => ?_)); exact rfl) | ((with_reducible refine td_split ?_ (fun _ => ?_) (fun _ => ?_)); exact rfl) | (with_reducible refine c_split (fun _ => ?_) (fun _ => ?_)))
    refine quadK_ok _ _ hrc _ (by omega) (by omega) (by omega) (fun q p2 C2 r2 d2 hq ho hp2 hp3 => ?_)
    have hw2 : Rw C2 36 5 (.slice A1 qs.length c1) qs.length (qcells qs) bs := hw.chg (d2.toChg (bs := [b]) (by simp)) fun y hy hm => by
      simp only [List.mem_cons, List.not_mem_nil, or_false] at hm
      exact hbs (hm ▸ hy)
    repeat' (first | simp -implicitDefEqProofs only [zG1,zG2,zG3,zG4,zG5,zG6,zG7,eq_self,resV,rval,X.val,binv,fillL,setR,↓reduceIte,Nat.reduceEqDiff,Nat.reduceAdd,Nat.reduceMul,Nat.reduceLeDiff,Nat.reduceLT,Nat.reduceSub,reduceCtorEq,zGq] | ((with_reducible refine rows_intro (fun _ hb => ?_)); try simp only [set_none, ne_eq] at hb) | ((with_reducible refine new_intro (fun _ hb => ?_)); try simp only [set_none, ne_eq] at hb) | (with_reducible refine draw_same ?_) | ((with_reducible refine gd_split ?_ (fun _ => ?_) (fun _ => ?_)); exact rfl) | ((with_reducible refine td_split ?_ (fun _ => ?_) (fun _ => ?_)); exact rfl) | (with_reducible refine c_split (fun _ => ?_) (fun _ => ?_)))
    have hb2 := hb
    have l3 := (AHeap.le.refl C2).fresh hb2 ⟨q.cells, true, 36, 5⟩
    refine app_rw (news := q.cells) (hw2.trans l3) (Fl.blk _ _ _ _ fun _ _ h => h) rfl (q_oc q) (by simp only [maxLen]; omega) (by omega) (fun v3 C3 bs3 hc3 hn3 w3 => ?_)
    have d3 := ((hd.trans d2).then_le l3).chg hc3 hnb
    repeat' (first | simp -implicitDefEqProofs only [zG1,zG2,zG3,zG4,zG5,zG6,zG7,eq_self,resV,rval,X.val,binv,fillL,setR,↓reduceIte,Nat.reduceEqDiff,Nat.reduceAdd,Nat.reduceMul,Nat.reduceLeDiff,Nat.reduceLT,Nat.reduceSub,reduceCtorEq,zGq, f0, f3, f4, f5, g2] | ((with_reducible refine rows_intro (fun _ hb => ?_)); try simp only [set_none, ne_eq] at hb) | ((with_reducible refine new_intro (fun _ hb => ?_)); try simp only [set_none, ne_eq] at hb) | (with_reducible refine draw_same ?_) | ((with_reducible refine gd_split ?_ (fun _ => ?_) (fun _ => ?_)); exact rfl) | ((with_reducible refine td_split ?_ (fun _ => ?_) (fun _ => ?_)); exact rfl) | (with_reducible refine c_split (fun _ => ?_) (fun _ => ?_)))
    refine hN _ _ _ (.refl _) ⟨qs ++ [q], v3, bs3, p2, (r2.le l3).chg hc3 hbs hr.fl d3.le, d3, fun y hy => ?_, by rw [List.length_append, qcells_snoc]; exact w3, by simp; omega, fun i hi => ?_, by omega, by omega, (by first | rfl | (simp only [put_at, ↓reduceIte, Nat.reduceEqDiff]; first | done | rfl | assumption) | simp [put_at, *]), (by first | rfl | (simp only [put_at, ↓reduceIte, Nat.reduceEqDiff]; first | done | rfl | assumption) | simp [put_at, *]), (by first | rfl | (simp only [put_at, ↓reduceIte, Nat.reduceEqDiff]; first | done | rfl | assumption) | simp [put_at, *]), (by first | rfl | (simp only [put_at, ↓reduceIte, Nat.reduceEqDiff]; first | done | rfl | assumption) | simp [put_at, *])⟩
    · rcases hn3 y hy with h | h
      · exact hnb y h
      · exact ((hd.trans d2).then_le l3).nov h
    · by_cases hi' : i < qs.length
      · rw [List.getElem_append_left hi']; exact hv i hi'
      · rw [List.getElem_append_right (by omega)]
        simp only [List.length_append, List.length_cons, List.length_nil] at hi
        simp only [show i - qs.length = 0 by omega, List.getElem_cons_zero]
        exact hq
  · rintro fr C ⟨qs, v, bs, p', hrc, hd, hnb, hw, hl, hv, hp0, hp1, f0, f3, f4, f5⟩ N
    obtain ⟨A1, c1, rfl, -⟩ := hw.fl
    have hbs : ¬ b ∈ bs := fun hm => hd.b0 (hnb b hm)
    have g2 := nat_up (a := j) (by omega)
    have g0 : decide (((j + 1 : Nat) : Int) < ((1 + j : Nat) : Int)) = false := by simp; omega
    have fin : ∀ (C2 : AHeap) (q : Qd) (p2 : Int) (y c : Nat) (D : Value → AHeap → Prop), RdK S C2 b p2 → Dr C C2 b → C2 y = none → quadValid q ((1 + j : Nat) : Int) = true → (q.op = 10 ∨ q.op = 4) → p' ≤ p2 → p2 ≤ p' + 5 → (∀ v3 C3, K v3 C3 → D v3 C3) →
        appK Tryz.prog w0 [.int .i64 0, .int .i64 0, .int .i64 0, .int .i64 0, .int .i64 0] 36 40 (.slice A1 qs.length c1) (.slice (some ⟨y, 0, none⟩) 1 1) D (C2.set y ⟨q.cells, true, 36, c⟩) := by
      intro C2 q p2 y c D r2 d2 hy hq ho hq0 hq1 hD
      have hw2 : Rw C2 36 5 (.slice A1 qs.length c1) qs.length (qcells qs) bs := hw.chg (d2.toChg (bs := [b]) (by simp)) fun y hy hm => by
        simp only [List.mem_cons, List.not_mem_nil, or_false] at hm
        exact hbs (hm ▸ hy)
      have l3 := (AHeap.le.refl C2).fresh hy ⟨q.cells, true, 36, c⟩
      refine app_rw (news := q.cells) (hw2.trans l3) (Fl.blk _ _ _ _ fun _ _ h => h) rfl (q_oc q) (by simp only [maxLen]; omega) (by omega) (fun v3 C3 bs3 hc3 hn3 w3 => hD v3 C3 ?_)
      have d3 := ((hd.trans d2).then_le l3).chg hc3 hnb
      refine h (qs ++ [q]) v3 bs3 C3 p2 ((r2.le l3).chg hc3 hbs hr.fl d3.le) d3 (fun y hy => ?_) (by rw [List.length_append, qcells_snoc]; exact w3) (random_valid (m := 1 + j) (by omega) (by omega) hv hq ho) (by omega) (by omega)
      rcases hn3 y hy with h | h
      · exact hnb y h
      · exact ((hd.trans d2).then_le l3).nov h
    repeat' (first | simp -implicitDefEqProofs only [zG1,zG2,zG3,zG4,zG5,zG6,zG7,eq_self,resV,rval,X.val,binv,fillL,setR,↓reduceIte,Nat.reduceEqDiff,Nat.reduceAdd,Nat.reduceMul,Nat.reduceLeDiff,Nat.reduceLT,Nat.reduceSub,reduceCtorEq,zGq, f0, f3, f4, f5, g0, g2] | ((with_reducible refine rows_intro (fun _ hb => ?_)); try simp only [set_none, ne_eq] at hb) | ((with_reducible refine new_intro (fun _ hb => ?_)); try simp only [set_none, ne_eq] at hb) | (with_reducible refine draw_same ?_) | ((with_reducible refine gd_split ?_ (fun _ => ?_) (fun _ => ?_)); exact rfl) | ((with_reducible refine td_split ?_ (fun _ => ?_) (fun _ => ?_)); exact rfl) | (with_reducible refine c_split (fun _ => ?_) (fun _ => ?_)))
    refine pickK_ok _ _ hrc 3 (by omega) (by omega) (by decide) (fun u C2 r2 d2 hu0 hu1 => ?_)
    repeat' (first | simp -implicitDefEqProofs only [zG1,zG2,zG3,zG4,zG5,zG6,zG7,eq_self,resV,rval,X.val,binv,fillL,setR,↓reduceIte,Nat.reduceEqDiff,Nat.reduceAdd,Nat.reduceMul,Nat.reduceLeDiff,Nat.reduceLT,Nat.reduceSub,reduceCtorEq,zGq, f0, f3, f4] | ((with_reducible refine rows_intro (fun _ hb => ?_)); try simp only [set_none, ne_eq] at hb) | ((with_reducible refine new_intro (fun _ hb => ?_)); try simp only [set_none, ne_eq] at hb) | (with_reducible refine draw_same ?_) | ((with_reducible refine gd_split ?_ (fun _ => ?_) (fun _ => ?_)); exact rfl) | ((with_reducible refine td_split ?_ (fun _ => ?_) (fun _ => ?_)); exact rfl) | (with_reducible refine c_split (fun _ => ?_) (fun _ => ?_)))
    · refine pickK_ok _ _ r2 _ (by omega) (by omega) (by omega) (fun u2 C3 r3 d3 hw0 hw1 => ?_)
      repeat' (first | simp -implicitDefEqProofs only [zG1,zG2,zG3,zG4,zG5,zG6,zG7,eq_self,resV,rval,X.val,binv,fillL,setR,↓reduceIte,Nat.reduceEqDiff,Nat.reduceAdd,Nat.reduceMul,Nat.reduceLeDiff,Nat.reduceLT,Nat.reduceSub,reduceCtorEq,zGq, f0, f3, f4] | ((with_reducible refine rows_intro (fun _ hb => ?_)); try simp only [set_none, ne_eq] at hb) | ((with_reducible refine new_intro (fun _ hb => ?_)); try simp only [set_none, ne_eq] at hb) | (with_reducible refine draw_same ?_) | ((with_reducible refine gd_split ?_ (fun _ => ?_) (fun _ => ?_)); exact rfl) | ((with_reducible refine td_split ?_ (fun _ => ?_) (fun _ => ?_)); exact rfl) | (with_reducible refine c_split (fun _ => ?_) (fun _ => ?_)))
      refine fin C3 ⟨4, 0, 0, 0, u2⟩ _ _ _ _ r3 (d2.trans d3) hb (by simp [quadValid]; omega) (.inr rfl) (by omega) (by omega) (fun v3 C4 hK => ?_)
      repeat' (first | simp -implicitDefEqProofs only [zG1,zG2,zG3,zG4,zG5,zG6,zG7,eq_self,resV,rval,X.val,binv,fillL,setR,↓reduceIte,Nat.reduceEqDiff,Nat.reduceAdd,Nat.reduceMul,Nat.reduceLeDiff,Nat.reduceLT,Nat.reduceSub,reduceCtorEq,zGq, f0, f3, f4] | ((with_reducible refine rows_intro (fun _ hb => ?_)); try simp only [set_none, ne_eq] at hb) | ((with_reducible refine new_intro (fun _ hb => ?_)); try simp only [set_none, ne_eq] at hb) | (with_reducible refine draw_same ?_) | ((with_reducible refine gd_split ?_ (fun _ => ?_) (fun _ => ?_)); exact rfl) | ((with_reducible refine td_split ?_ (fun _ => ?_) (fun _ => ?_)); exact rfl) | (with_reducible refine c_split (fun _ => ?_) (fun _ => ?_)))
      exact ret_same hK
    · refine fin C2 ⟨10, 0, 0, 0, 0⟩ _ _ _ _ r2 d2 hb (by simp [quadValid]) (.inl rfl) (by omega) (by omega) (fun v3 C4 hK => ?_)
      repeat' (first | simp -implicitDefEqProofs only [zG1,zG2,zG3,zG4,zG5,zG6,zG7,eq_self,resV,rval,X.val,binv,fillL,setR,↓reduceIte,Nat.reduceEqDiff,Nat.reduceAdd,Nat.reduceMul,Nat.reduceLeDiff,Nat.reduceLT,Nat.reduceSub,reduceCtorEq,zGq, f0, f3, f4] | ((with_reducible refine rows_intro (fun _ hb => ?_)); try simp only [set_none, ne_eq] at hb) | ((with_reducible refine new_intro (fun _ hb => ?_)); try simp only [set_none, ne_eq] at hb) | (with_reducible refine draw_same ?_) | ((with_reducible refine gd_split ?_ (fun _ => ?_) (fun _ => ?_)); exact rfl) | ((with_reducible refine td_split ?_ (fun _ => ?_) (fun _ => ?_)); exact rfl) | (with_reducible refine c_split (fun _ => ?_) (fun _ => ?_)))
      exact ret_same hK
theorem l93Good_ok (S : Src) (b : Nat) (H : AHeap) (K : Value → AHeap → Prop) (p : Int) (hr : RdK S H b p) (h0 : 0 ≤ p) (h1 : p ≤ 1099511200000) (h : OutC S b H p 36300 (fun qs => codeValid qs = true) K) :
    ACalls Tryz.prog w0 47 [.pointer (some ⟨b, 0, none⟩)] H K := by
  refine acalls_of_sx mix Tryz.func47 of47 (by simp [ir47]) ?_; rw [ir47]; (try delta qT qI qC qO qM qG)
  repeat' (first | simp -implicitDefEqProofs only [zG1,zG2,zG3,zG4,zG5,zG6,zG7,eq_self,resV,rval,X.val,binv,fillL,setR,↓reduceIte,Nat.reduceEqDiff,Nat.reduceAdd,Nat.reduceMul,Nat.reduceLeDiff,Nat.reduceLT,Nat.reduceSub,reduceCtorEq,zGq] | ((with_reducible refine rows_intro (fun _ hb => ?_)); try simp only [set_none, ne_eq] at hb) | ((with_reducible refine new_intro (fun _ hb => ?_)); try simp only [set_none, ne_eq] at hb) | (with_reducible refine draw_same ?_) | ((with_reducible refine gd_split ?_ (fun _ => ?_) (fun _ => ?_)); exact rfl) | ((with_reducible refine td_split ?_ (fun _ => ?_) (fun _ => ?_)); exact rfl) | (with_reducible refine c_split (fun _ => ?_) (fun _ => ?_)))
  refine pickK_ok _ _ hr 2 (by omega) (by omega) (by decide) (fun u C1 r1 d1 hu0 hu1 => ?_)
  have rnd : ∀ (C : AHeap) (q : Int) (D : Value → AHeap → Prop), RdK S C b q → Dr H C b → p ≤ q → q ≤ p + 36010 → (∀ v C', K v C' → D v C') → ACalls Tryz.prog w0 55 [.pointer (some ⟨b, 0, none⟩)] C D := by
    intro C q D rc dc hq0 hq1 hD
    exact l93Random_ok _ S b C D q rc (by omega) (by omega) fun qs v bs C' p' r' d' n' w' hv hp0 hp1 => hD v C' (h qs v bs C' p' r' (dc.trans d') (n'.le' dc) w' hv (by omega) (by omega))
  repeat' (first | simp -implicitDefEqProofs only [zG1,zG2,zG3,zG4,zG5,zG6,zG7,eq_self,resV,rval,X.val,binv,fillL,setR,↓reduceIte,Nat.reduceEqDiff,Nat.reduceAdd,Nat.reduceMul,Nat.reduceLeDiff,Nat.reduceLT,Nat.reduceSub,reduceCtorEq,zGq] | ((with_reducible refine rows_intro (fun _ hb => ?_)); try simp only [set_none, ne_eq] at hb) | ((with_reducible refine new_intro (fun _ hb => ?_)); try simp only [set_none, ne_eq] at hb) | (with_reducible refine draw_same ?_) | ((with_reducible refine gd_split ?_ (fun _ => ?_) (fun _ => ?_)); exact rfl) | ((with_reducible refine td_split ?_ (fun _ => ?_) (fun _ => ?_)); exact rfl) | (with_reducible refine c_split (fun _ => ?_) (fun _ => ?_)) | (with_reducible refine rnd _ _ _ r1 d1 (by omega) (by omega) (fun v C' hK => ?_)))
  · exact ret_same hK
  · refine l92Stmts_ok _ S b C1 _ (p + 1) 2 r1 (by decide) (by omega) (by omega) (fun ss xs v bs C2 p2 r2 d2 n2 w2 s2 hok hl hp0 hp1 => ?_)
    obtain ⟨A1, c1, rfl, f⟩ := w2.fl
    have hR : StR C2 ss A1 0 := (s2.le ((no_le _ _).trans (off_le _ _))).str f
    have hcnt : cntL ss ≤ 16 := by
      simp only [stsOk, Bool.and_eq_true, decide_eq_true_eq] at hok; exact hok.2
    have d02 := d1.trans d2
    have hcv := compTask_valid hok
    have ecv : compileTask ss = compTask ss := by simp [compileTask, hok]
    have hlen := (code_at hcv).2.1
    repeat' (first | simp -implicitDefEqProofs only [zG1,zG2,zG3,zG4,zG5,zG6,zG7,eq_self,resV,rval,X.val,binv,fillL,setR,↓reduceIte,Nat.reduceEqDiff,Nat.reduceAdd,Nat.reduceMul,Nat.reduceLeDiff,Nat.reduceLT,Nat.reduceSub,reduceCtorEq,zGq] | ((with_reducible refine rows_intro (fun _ hb => ?_)); try simp only [set_none, ne_eq] at hb) | ((with_reducible refine new_intro (fun _ hb => ?_)); try simp only [set_none, ne_eq] at hb) | (with_reducible refine draw_same ?_) | ((with_reducible refine gd_split ?_ (fun _ => ?_) (fun _ => ?_)); exact rfl) | ((with_reducible refine td_split ?_ (fun _ => ?_) (fun _ => ?_)); exact rfl) | (with_reducible refine c_split (fun _ => ?_) (fun _ => ?_)) | (with_reducible refine compileTaskS_ok _ ss A1 c1 _ _ (by omega) hR (fun v3 C3 r3 => ?_)))
    rw [ecv] at r3
    obtain ⟨A3, c3, rfl, f3⟩ := r3.fl
    have rr3 := r2.le r3.hle
    have d03 := d02.then_le r3.hle
    by_cases hbig : 40 < (compTask ss).length
    · have g0 : decide (((compTask ss).length : Int) > 40) = true := by simp; omega
      repeat' (first | simp -implicitDefEqProofs only [zG1,zG2,zG3,zG4,zG5,zG6,zG7,eq_self,resV,rval,X.val,binv,fillL,setR,↓reduceIte,Nat.reduceEqDiff,Nat.reduceAdd,Nat.reduceMul,Nat.reduceLeDiff,Nat.reduceLT,Nat.reduceSub,reduceCtorEq,zGq, g0] | ((with_reducible refine rows_intro (fun _ hb => ?_)); try simp only [set_none, ne_eq] at hb) | ((with_reducible refine new_intro (fun _ hb => ?_)); try simp only [set_none, ne_eq] at hb) | (with_reducible refine draw_same ?_) | ((with_reducible refine gd_split ?_ (fun _ => ?_) (fun _ => ?_)); exact rfl) | ((with_reducible refine td_split ?_ (fun _ => ?_) (fun _ => ?_)); exact rfl) | (with_reducible refine c_split (fun _ => ?_) (fun _ => ?_)) | (with_reducible refine rnd _ _ _ rr3 d03 (by omega) (by omega) (fun v C' hK => ?_)))
      exact ret_same hK
    · have g0 : decide (((compTask ss).length : Int) > 40) = false := by simp; omega
      repeat' (first | simp -implicitDefEqProofs only [zG1,zG2,zG3,zG4,zG5,zG6,zG7,eq_self,resV,rval,X.val,binv,fillL,setR,↓reduceIte,Nat.reduceEqDiff,Nat.reduceAdd,Nat.reduceMul,Nat.reduceLeDiff,Nat.reduceLT,Nat.reduceSub,reduceCtorEq,zGq, g0] | ((with_reducible refine rows_intro (fun _ hb => ?_)); try simp only [set_none, ne_eq] at hb) | ((with_reducible refine new_intro (fun _ hb => ?_)); try simp only [set_none, ne_eq] at hb) | (with_reducible refine draw_same ?_) | ((with_reducible refine gd_split ?_ (fun _ => ?_) (fun _ => ?_)); exact rfl) | ((with_reducible refine td_split ?_ (fun _ => ?_) (fun _ => ?_)); exact rfl) | (with_reducible refine c_split (fun _ => ?_) (fun _ => ?_)))
      refine pickK_ok _ _ rr3 3 (by omega) (by omega) (by decide) (fun u C4 r4 d4 hu0 hu1 => ?_)
      obtain ⟨j, rfl⟩ := nat3 hu0
      have w1 : IntKind.i64.wrap ((j : Int).tdiv 2) = ((j / 2 : Nat) : Int) := by rw [show (j : Int).tdiv 2 = ((j / 2 : Nat) : Int) from rfl]; exact wrap_i64 (by omega) (by omega)
      have g3 : ¬ (2 : Int) = 0 := by decide
      have f4 : Fl C4 A3 (qcells (compTask ss)) := by
        obtain ⟨bs3, l3, n3, w3⟩ := r3
        exact (w3.chg (d4.toChg (bs := [b]) (by simp)) fun y hy hm => by
          simp only [List.mem_cons, List.not_mem_nil, or_false] at hm
          subst hm; exact r2.ne (n3 _ hy)).fl'.1
      repeat' (first | simp -implicitDefEqProofs only [zG1,zG2,zG3,zG4,zG5,zG6,zG7,eq_self,resV,rval,X.val,binv,fillL,setR,↓reduceIte,Nat.reduceEqDiff,Nat.reduceAdd,Nat.reduceMul,Nat.reduceLeDiff,Nat.reduceLT,Nat.reduceSub,reduceCtorEq,zGq, w1, g3] | ((with_reducible refine rows_intro (fun _ hb => ?_)); try simp only [set_none, ne_eq] at hb) | ((with_reducible refine new_intro (fun _ hb => ?_)); try simp only [set_none, ne_eq] at hb) | (with_reducible refine draw_same ?_) | ((with_reducible refine gd_split ?_ (fun _ => ?_) (fun _ => ?_)); exact rfl) | ((with_reducible refine td_split ?_ (fun _ => ?_) (fun _ => ?_)); exact rfl) | (with_reducible refine c_split (fun _ => ?_) (fun _ => ?_)) | (with_reducible refine optimizeS_ok _ _ _ A3 c3 _ _ (by omega) f4 hcv (fun qs v5 C5 hv5 r5 => ?_)))
      obtain ⟨bs5, l5, n5, w5⟩ := r5
      have d04 := d03.trans d4
      exact ret_same (h qs v5 bs5 C5 _ (r4.le l5) (d04.then_le l5) (n5.le' d04) w5 hv5 (by omega) (by omega))
end Go.Proofs.YtodhkodhndbpmaaGreat
namespace Go.Proofs.YtodhkodhndbpmaaGreat
set_option linter.all false
open Go Go.RowKit
set_option maxRecDepth 100000
variable (w0 : World)
/-- A store of a whole quad into a row of the call's own. -/
theorem st_quad {D : Value → AHeap → Prop} {C : AHeap} {b i cap : Nat} {t : TypeId} {qs : List Qd} {x0 x1 x2 x3 x4 : Int} (hk : Kn C b ⟨qcells qs, true, t, cap⟩) (hi : i < qs.length)
    (hD : ∀ C', Chg C C' [b] → Kn C' b ⟨qcells (qs.set i ⟨x0, x1, x2, x3, x4⟩), true, t, cap⟩ → D undef C') : stK 5 (.pointer (some ⟨b, i * 5, none⟩)) (.agg #[.int .i64 x0, .int .i64 x1, .int .i64 x2, .int .i64 x3, .int .i64 x4]) D C := by
  refine st_kn hk rfl rfl (by rw [qcells_len]; omega) (by simp [vcA, ocI]) (fun C' hc _ k => hD C' hc ?_)
  have e : setR (qcells qs) (i * 5) (Value.agg #[.int .i64 x0, .int .i64 x1, .int .i64 x2, .int .i64 x3, .int .i64 x4]).cells.toList = qcells (qs.set i ⟨x0, x1, x2, x3, x4⟩) := qcells_setR hi ⟨x0, x1, x2, x3, x4⟩
  rw [← e]; exact k
theorem st_quad0 {D : Value → AHeap → Prop} {C : AHeap} {b cap : Nat} {t : TypeId} {qs : List Qd} {x0 x1 x2 x3 x4 : Int} (hk : Kn C b ⟨qcells qs, true, t, cap⟩) (hi : 0 < qs.length)
    (hD : ∀ C', Chg C C' [b] → Kn C' b ⟨qcells (qs.set 0 ⟨x0, x1, x2, x3, x4⟩), true, t, cap⟩ → D undef C') : stK 5 (.pointer (some ⟨b, 0, none⟩)) (.agg #[.int .i64 x0, .int .i64 x1, .int .i64 x2, .int .i64 x3, .int .i64 x4]) D C := by
  have := st_quad (i := 0) (D := D) hk hi hD
  rwa [Nat.zero_mul] at this
/-- A store of a first quad's target register. -/
theorem st_dst {D : Value → AHeap → Prop} {C : AHeap} {b cap : Nat} {t : TypeId} {q : Qd} {qs : List Qd} {x : Int} (hk : Kn C b ⟨qcells (q :: qs), true, t, cap⟩)
    (hD : ∀ C', Chg C C' [b] → Kn C' b ⟨qcells (⟨q.op, x, q.a, q.b, q.n⟩ :: qs), true, t, cap⟩ → D undef C') : stK 1 (.pointer (some ⟨b, 1, none⟩)) (.int .i64 x) D C := by
  refine st_kn hk rfl rfl (by rw [qcells_len]; simp only [List.length_cons]; omega) (by simp [vcI, ocI]) (fun C' hc _ k => hD C' hc ?_)
  exact k
theorem l93Code_ok (S : Src) (b : Nat) (H : AHeap) (K : Value → AHeap → Prop) (p : Int) (hr : RdK S H b p) (h0 : 0 ≤ p) (h1 : p ≤ 1099511100000) (h : OutC S b H p 36301 (fun qs => qs.length ≤ 601) K) :
    ACalls Tryz.prog w0 34 [.pointer (some ⟨b, 0, none⟩)] H K := by
  refine acalls_of_sx mix Tryz.func34 of34 (by simp [ir34]) ?_; rw [ir34]; (try delta qT qI qC qO qM qG)
  repeat' (first | simp -implicitDefEqProofs only [zG1,zG2,zG3,zG4,zG5,zG6,zG7,eq_self,resV,rval,X.val,binv,fillL,setR,↓reduceIte,Nat.reduceEqDiff,Nat.reduceAdd,Nat.reduceMul,Nat.reduceLeDiff,Nat.reduceLT,Nat.reduceSub,reduceCtorEq,zGq] | ((with_reducible refine rows_intro (fun _ hb => ?_)); try simp only [set_none, ne_eq] at hb) | ((with_reducible refine new_intro (fun _ hb => ?_)); try simp only [set_none, ne_eq] at hb) | (with_reducible refine draw_same ?_) | ((with_reducible refine gd_split ?_ (fun _ => ?_) (fun _ => ?_)); exact rfl) | ((with_reducible refine td_split ?_ (fun _ => ?_) (fun _ => ?_)); exact rfl) | (with_reducible refine c_split (fun _ => ?_) (fun _ => ?_)))
  refine l93Good_ok _ S b H _ p hr h0 (by omega) (fun qs v bs C1 p1 r1 d1 n1 w1 hv hp0 hp1 => ?_)
  have hc := code_at hv
  repeat' (first | simp -implicitDefEqProofs only [zG1,zG2,zG3,zG4,zG5,zG6,zG7,eq_self,resV,rval,X.val,binv,fillL,setR,↓reduceIte,Nat.reduceEqDiff,Nat.reduceAdd,Nat.reduceMul,Nat.reduceLeDiff,Nat.reduceLT,Nat.reduceSub,reduceCtorEq,zGq] | ((with_reducible refine rows_intro (fun _ hb => ?_)); try simp only [set_none, ne_eq] at hb) | ((with_reducible refine new_intro (fun _ hb => ?_)); try simp only [set_none, ne_eq] at hb) | (with_reducible refine draw_same ?_) | ((with_reducible refine gd_split ?_ (fun _ => ?_) (fun _ => ?_)); exact rfl) | ((with_reducible refine td_split ?_ (fun _ => ?_) (fun _ => ?_)); exact rfl) | (with_reducible refine c_split (fun _ => ?_) (fun _ => ?_)))
  refine pickK_ok _ _ r1 36 (by omega) (by omega) (by decide) (fun u C2 r2 d2 hu0 hu1 => ?_)
  have hbs : ¬ b ∈ bs := fun hm => d1.b0 (n1 b hm)
  have d02 := d1.trans d2
  have w2 : Rw C2 36 5 v qs.length (qcells qs) bs := w1.chg (d2.toChg (bs := [b]) (by simp)) fun y hy hm => by
    simp only [List.mem_cons, List.not_mem_nil, or_false] at hm
    exact hbs (hm ▸ hy)
  have hfin : K v C2 := h qs v bs C2 _ r2 d02 n1 w2 (by omega) (by omega) (by omega)
  have hnil : ∀ y, C2 y = none → K (.slice (some ⟨y, 0, none⟩) 0 0) (C2.set y ⟨[], true, 36, 0⟩) := fun y hy => by
    have l := (AHeap.le.refl C2).fresh hy ⟨[], true, 36, 0⟩
    exact h [] _ [y] _ _ (r2.le l) (d02.then_le l) (New.one (d02.nov hy)) (Rw.mk (cap := 0) (by rw [Nat.zero_mul]; exact Kn.same _ _ _) (by simp [qcells]) (by simp) (by decide)) (by simp) (by omega) (by omega)
  obtain ⟨b', cap, rfl, rfl, hc1, hc2, hl, hk⟩ := w2.open_ hc.1
  have hb' : ¬ b = b' := by simpa using hbs
  have put : ∀ (C3 : AHeap) (qs' : List Qd), Chg C2 C3 [b'] → Kn C3 b' ⟨qcells qs', true, 36, cap * 5⟩ → qs'.length = qs.length → K (.slice (some ⟨b', 0, none⟩) qs.length cap) C3 := by
    intro C3 qs' hch k hlen
    have d3 := d02.chg hch n1
    have w3 : Rw C3 36 5 (.slice (some ⟨b', 0, none⟩) qs'.length cap) qs'.length (qcells qs') [b'] := Rw.mk k (qcells_len _) (by omega) hc2
    rw [← hlen]
    exact h qs' _ [b'] C3 _ (r2.chg hch hbs hr.fl d3.le) d3 n1 w3 (by omega) (by omega) (by omega)
  have g1 : (0 : Int) < (qs.length : Int) := by omega
  obtain ⟨q0, qr, hq0⟩ : ∃ q qr, qs = q :: qr := by
    cases qs with
    | nil => simp at hc
    | cons q qr => exact ⟨q, qr, rfl⟩
  repeat' (first | simp -implicitDefEqProofs only [zG1,zG2,zG3,zG4,zG5,zG6,zG7,eq_self,resV,rval,X.val,binv,fillL,setR,↓reduceIte,Nat.reduceEqDiff,Nat.reduceAdd,Nat.reduceMul,Nat.reduceLeDiff,Nat.reduceLT,Nat.reduceSub,reduceCtorEq,zGq, g1, Int.le_refl, Int.toNat_zero, Nat.zero_mul, adr_zero, adr_lit, Nat.zero_add] | ((with_reducible refine rows_intro (fun _ hb => ?_)); try simp only [set_none, ne_eq] at hb) | ((with_reducible refine new_intro (fun _ hb => ?_)); try simp only [set_none, ne_eq] at hb) | (with_reducible refine draw_same ?_) | ((with_reducible refine gd_split ?_ (fun _ => ?_) (fun _ => ?_)); exact rfl) | ((with_reducible refine td_split ?_ (fun _ => ?_) (fun _ => ?_)); exact rfl) | (with_reducible refine c_split (fun _ => ?_) (fun _ => ?_)))
  · have hk' := hk
    rw [hq0] at hk'
    refine st_dst hk' (fun C3 hch k => ?_)
    repeat' (first | simp -implicitDefEqProofs only [zG1,zG2,zG3,zG4,zG5,zG6,zG7,eq_self,resV,rval,X.val,binv,fillL,setR,↓reduceIte,Nat.reduceEqDiff,Nat.reduceAdd,Nat.reduceMul,Nat.reduceLeDiff,Nat.reduceLT,Nat.reduceSub,reduceCtorEq,zGq] | ((with_reducible refine rows_intro (fun _ hb => ?_)); try simp only [set_none, ne_eq] at hb) | ((with_reducible refine new_intro (fun _ hb => ?_)); try simp only [set_none, ne_eq] at hb) | (with_reducible refine draw_same ?_) | ((with_reducible refine gd_split ?_ (fun _ => ?_) (fun _ => ?_)); exact rfl) | ((with_reducible refine td_split ?_ (fun _ => ?_) (fun _ => ?_)); exact rfl) | (with_reducible refine c_split (fun _ => ?_) (fun _ => ?_)))
    exact ret_same (put C3 _ hch k (by rw [hq0]; rfl))
  · have l3 := (AHeap.le.refl C2).fresh hb ⟨(⟨9, 0, 0, 0, 0⟩ : Qd).cells, true, 36, 5⟩
    refine app_rw (news := (⟨9, 0, 0, 0, 0⟩ : Qd).cells) (w2.trans l3) (Fl.blk _ _ _ _ fun _ _ h => h) rfl (q_oc _) (by simp only [maxLen]; omega) (by omega) (fun v3 C3 bs3 hc3 hn3 w3 => ?_)
    have d3 := (d02.then_le l3).chg hc3 n1
    repeat' (first | simp -implicitDefEqProofs only [zG1,zG2,zG3,zG4,zG5,zG6,zG7,eq_self,resV,rval,X.val,binv,fillL,setR,↓reduceIte,Nat.reduceEqDiff,Nat.reduceAdd,Nat.reduceMul,Nat.reduceLeDiff,Nat.reduceLT,Nat.reduceSub,reduceCtorEq,zGq] | ((with_reducible refine rows_intro (fun _ hb => ?_)); try simp only [set_none, ne_eq] at hb) | ((with_reducible refine new_intro (fun _ hb => ?_)); try simp only [set_none, ne_eq] at hb) | (with_reducible refine draw_same ?_) | ((with_reducible refine gd_split ?_ (fun _ => ?_) (fun _ => ?_)); exact rfl) | ((with_reducible refine td_split ?_ (fun _ => ?_) (fun _ => ?_)); exact rfl) | (with_reducible refine c_split (fun _ => ?_) (fun _ => ?_)))
    refine ret_same (h (qs ++ [⟨9, 0, 0, 0, 0⟩]) v3 bs3 C3 _ ((r2.le l3).chg hc3 hbs hr.fl d3.le) d3 (fun y hy => ?_) (by rw [List.length_append, qcells_snoc]; exact w3) (by simp; omega) (by omega) (by omega))
    rcases hn3 y hy with h | h
    · exact n1 y h
    · exact (d02.then_le l3).nov h
  · refine st_quad0 hk hc.1 (fun C3 hch k => ?_)
    repeat' (first | simp -implicitDefEqProofs only [zG1,zG2,zG3,zG4,zG5,zG6,zG7,eq_self,resV,rval,X.val,binv,fillL,setR,↓reduceIte,Nat.reduceEqDiff,Nat.reduceAdd,Nat.reduceMul,Nat.reduceLeDiff,Nat.reduceLT,Nat.reduceSub,reduceCtorEq,zGq] | ((with_reducible refine rows_intro (fun _ hb => ?_)); try simp only [set_none, ne_eq] at hb) | ((with_reducible refine new_intro (fun _ hb => ?_)); try simp only [set_none, ne_eq] at hb) | (with_reducible refine draw_same ?_) | ((with_reducible refine gd_split ?_ (fun _ => ?_) (fun _ => ?_)); exact rfl) | ((with_reducible refine td_split ?_ (fun _ => ?_) (fun _ => ?_)); exact rfl) | (with_reducible refine c_split (fun _ => ?_) (fun _ => ?_)))
    exact ret_same (put C3 _ hch k (by simp))
  · exact ret_same (hnil _ hb)
  · exact ret_same hfin
end Go.Proofs.YtodhkodhndbpmaaGreat
namespace Go.Proofs.YtodhkodhndbpmaaGreat
set_option linter.all false
open Go Go.RowKit
set_option maxRecDepth 100000
variable (w0 : World) (H : AHeap) (K : Value → AHeap → Prop)
/-- What the law's draw owes. -/
abbrev OutX (H : AHeap) (m : Nat) (K : Value → AHeap → Prop) : Prop := ∀ qs v C, Row H C 36 5 v qs.length (qcells qs) → qs.length ≤ m → K v C
theorem openK_ok (A : Option Addr) (n c : Nat) (zs : List Int) (hF : Fl H A (u8s zs)) (hr : ∀ z ∈ zs, 0 ≤ z ∧ z < 256) (hl : zs.length = n) (hc : n ≤ c)
    (h : ∀ S b C0, RdK S C0 b 0 → AHeap.le H C0 → (∀ C, Dr C0 C b → AHeap.le H C) → K (.pointer (some ⟨b, 0, none⟩)) C0) : ACalls Tryz.prog w0 27 [.slice A n c] H K := by
  refine l6Open_ok _ _ _ A n c zs hF hr hl hc fun b n' c' zs' hb rd => h ⟨A, n', c', zs'⟩ b _ ⟨Kn.same _ _ _, by rw [del_set hb]; exact rd.fl, rd.rng, rd.len, rd.max⟩ ((AHeap.le.refl H).fresh hb _) fun C d => ?_
  have := d.le
  rw [del_set hb] at this
  exact this.trans (del_le' _ _)
theorem drawSqueezeCode_ok (A : Option Addr) (n c : Nat) (zs : List Int) (hF : Fl H A (u8s zs)) (hr : ∀ z ∈ zs, 0 ≤ z ∧ z < 256) (hl : zs.length = n) (hc : n ≤ c) (h : OutX H 601 K) : ACalls Tryz.prog w0 22 [.slice A n c] H K := by
  refine acalls_of_sx mix Tryz.func22 of22 (by simp [ir22]) ?_; rw [ir22]; (try delta qT qI qC qO qM qG)
  repeat' (first | simp -implicitDefEqProofs only [zG1,zG2,zG3,zG4,zG5,zG6,zG7,eq_self,resV,rval,X.val,binv,fillL,setR,↓reduceIte,Nat.reduceEqDiff,Nat.reduceAdd,Nat.reduceMul,Nat.reduceLeDiff,Nat.reduceLT,Nat.reduceSub,reduceCtorEq,zGq] | ((with_reducible refine rows_intro (fun _ hb => ?_)); try simp only [set_none, ne_eq] at hb) | ((with_reducible refine new_intro (fun _ hb => ?_)); try simp only [set_none, ne_eq] at hb) | (with_reducible refine draw_same ?_) | ((with_reducible refine gd_split ?_ (fun _ => ?_) (fun _ => ?_)); exact rfl) | ((with_reducible refine td_split ?_ (fun _ => ?_) (fun _ => ?_)); exact rfl) | (with_reducible refine c_split (fun _ => ?_) (fun _ => ?_)))
  refine openK_ok _ _ _ A n c zs hF hr hl hc (fun S b C0 r0 l0 ld => ?_)
  repeat' (first | simp -implicitDefEqProofs only [zG1,zG2,zG3,zG4,zG5,zG6,zG7,eq_self,resV,rval,X.val,binv,fillL,setR,↓reduceIte,Nat.reduceEqDiff,Nat.reduceAdd,Nat.reduceMul,Nat.reduceLeDiff,Nat.reduceLT,Nat.reduceSub,reduceCtorEq,zGq] | ((with_reducible refine rows_intro (fun _ hb => ?_)); try simp only [set_none, ne_eq] at hb) | ((with_reducible refine new_intro (fun _ hb => ?_)); try simp only [set_none, ne_eq] at hb) | (with_reducible refine draw_same ?_) | ((with_reducible refine gd_split ?_ (fun _ => ?_) (fun _ => ?_)); exact rfl) | ((with_reducible refine td_split ?_ (fun _ => ?_) (fun _ => ?_)); exact rfl) | (with_reducible refine c_split (fun _ => ?_) (fun _ => ?_)))
  refine l93Code_ok _ S b C0 _ 0 r0 (by decide) (by decide) (fun qs v bs C p r d nb w hq hp0 hp1 => ?_)
  have hbs : ¬ b ∈ bs := fun hm => d.b0 (nb b hm)
  have hplain : K v C := h qs v C ⟨bs, ld C d, nb.le l0, w⟩ hq
  obtain ⟨A1, c1, rfl, -⟩ := w.fl
  by_cases hbig : 3 < qs.length
  · have g0 : decide ((qs.length : Int) > 3) = true := by simp; omega
    repeat' (first | simp -implicitDefEqProofs only [zG1,zG2,zG3,zG4,zG5,zG6,zG7,eq_self,resV,rval,X.val,binv,fillL,setR,↓reduceIte,Nat.reduceEqDiff,Nat.reduceAdd,Nat.reduceMul,Nat.reduceLeDiff,Nat.reduceLT,Nat.reduceSub,reduceCtorEq,zGq, g0] | ((with_reducible refine rows_intro (fun _ hb => ?_)); try simp only [set_none, ne_eq] at hb) | ((with_reducible refine new_intro (fun _ hb => ?_)); try simp only [set_none, ne_eq] at hb) | (with_reducible refine draw_same ?_) | ((with_reducible refine gd_split ?_ (fun _ => ?_) (fun _ => ?_)); exact rfl) | ((with_reducible refine td_split ?_ (fun _ => ?_) (fun _ => ?_)); exact rfl) | (with_reducible refine c_split (fun _ => ?_) (fun _ => ?_)))
    refine pickK_ok _ _ r 2 (by omega) (by omega) (by decide) (fun u C2 r2 d2 hu0 hu1 => ?_)
    have keep : ∀ {C3 C4 : AHeap} {v : Value} {qs : List Qd}, Dr C3 C4 b → Rw C3 36 5 v qs.length (qcells qs) bs → Rw C4 36 5 v qs.length (qcells qs) bs := fun d4 w => w.chg (d4.toChg (bs := [b]) (by simp)) fun y hy hm => by
      simp only [List.mem_cons, List.not_mem_nil, or_false] at hm
      exact hbs (hm ▸ hy)
    have w2 := keep d2 w
    have d02 := d.trans d2
    obtain ⟨b', cap, e, rfl, hc1, hc2, hxl, hk⟩ := w2.open_ (by omega)
    simp only [Value.slice.injEq, true_and] at e
    obtain ⟨rfl, rfl⟩ := e
    have g1' : (0 ≤ (1 : Int) ∧ (1 : Int) < (qs.length : Int)) = True := rng (k := 1) (n := qs.length) (by omega)
    have g2' : (0 ≤ (2 : Int) ∧ (2 : Int) < (qs.length : Int)) = True := rng (k := 2) (n := qs.length) (by omega)
    repeat' (first | simp -implicitDefEqProofs only [zG1,zG2,zG3,zG4,zG5,zG6,zG7,eq_self,resV,rval,X.val,binv,fillL,setR,↓reduceIte,Nat.reduceEqDiff,Nat.reduceAdd,Nat.reduceMul,Nat.reduceLeDiff,Nat.reduceLT,Nat.reduceSub,reduceCtorEq,zGq, g1', g2', Int.toNat_one, adr_lit, Nat.zero_add] | ((with_reducible refine rows_intro (fun _ hb => ?_)); try simp only [set_none, ne_eq] at hb) | ((with_reducible refine new_intro (fun _ hb => ?_)); try simp only [set_none, ne_eq] at hb) | (with_reducible refine draw_same ?_) | ((with_reducible refine gd_split ?_ (fun _ => ?_) (fun _ => ?_)); exact rfl) | ((with_reducible refine td_split ?_ (fun _ => ?_) (fun _ => ?_)); exact rfl) | (with_reducible refine c_split (fun _ => ?_) (fun _ => ?_)))
    · refine st_quad (i := 1) hk (by omega) (fun C4 hc4 k4 => ?_)
      have d4 := d02.chg hc4 nb
      have r4 := r2.chg hc4 hbs r0.fl d4.le
      repeat' (first | simp -implicitDefEqProofs only [zG1,zG2,zG3,zG4,zG5,zG6,zG7,eq_self,resV,rval,X.val,binv,fillL,setR,↓reduceIte,Nat.reduceEqDiff,Nat.reduceAdd,Nat.reduceMul,Nat.reduceLeDiff,Nat.reduceLT,Nat.reduceSub,reduceCtorEq,zGq, g1', g2', Int.toNat_one, adr_lit, Nat.zero_add] | ((with_reducible refine rows_intro (fun _ hb => ?_)); try simp only [set_none, ne_eq] at hb) | ((with_reducible refine new_intro (fun _ hb => ?_)); try simp only [set_none, ne_eq] at hb) | (with_reducible refine draw_same ?_) | ((with_reducible refine gd_split ?_ (fun _ => ?_) (fun _ => ?_)); exact rfl) | ((with_reducible refine td_split ?_ (fun _ => ?_) (fun _ => ?_)); exact rfl) | (with_reducible refine c_split (fun _ => ?_) (fun _ => ?_)))
      refine pickK_ok _ _ r4 4 (by omega) (by omega) (by decide) (fun u5 C5 r5 d5 hx0 hx1 => ?_)
      have k5 := d5.kn k4 (fun e => hbs (by simp [e]))
      have d05 := d4.trans d5
      repeat' (first | simp -implicitDefEqProofs only [zG1,zG2,zG3,zG4,zG5,zG6,zG7,eq_self,resV,rval,X.val,binv,fillL,setR,↓reduceIte,Nat.reduceEqDiff,Nat.reduceAdd,Nat.reduceMul,Nat.reduceLeDiff,Nat.reduceLT,Nat.reduceSub,reduceCtorEq,zGq, g1', g2', Int.toNat_one, adr_lit, Nat.zero_add, Int.reduceToNat] | ((with_reducible refine rows_intro (fun _ hb => ?_)); try simp only [set_none, ne_eq] at hb) | ((with_reducible refine new_intro (fun _ hb => ?_)); try simp only [set_none, ne_eq] at hb) | (with_reducible refine draw_same ?_) | ((with_reducible refine gd_split ?_ (fun _ => ?_) (fun _ => ?_)); exact rfl) | ((with_reducible refine td_split ?_ (fun _ => ?_) (fun _ => ?_)); exact rfl) | (with_reducible refine c_split (fun _ => ?_) (fun _ => ?_)))
      refine st_quad (i := 2) k5 (by rw [List.length_set]; omega) (fun C6 hc6 k6 => ?_)
      have d6 := d05.chg hc6 nb
      repeat' (first | simp -implicitDefEqProofs only [zG1,zG2,zG3,zG4,zG5,zG6,zG7,eq_self,resV,rval,X.val,binv,fillL,setR,↓reduceIte,Nat.reduceEqDiff,Nat.reduceAdd,Nat.reduceMul,Nat.reduceLeDiff,Nat.reduceLT,Nat.reduceSub,reduceCtorEq,zGq] | ((with_reducible refine rows_intro (fun _ hb => ?_)); try simp only [set_none, ne_eq] at hb) | ((with_reducible refine new_intro (fun _ hb => ?_)); try simp only [set_none, ne_eq] at hb) | (with_reducible refine draw_same ?_) | ((with_reducible refine gd_split ?_ (fun _ => ?_) (fun _ => ?_)); exact rfl) | ((with_reducible refine td_split ?_ (fun _ => ?_) (fun _ => ?_)); exact rfl) | (with_reducible refine c_split (fun _ => ?_) (fun _ => ?_)))
      refine ret_same ?_
      have hlen : ((qs.set 1 ⟨4, 0, 0, 0, 2⟩).set 2 ⟨5, 0, u5, 0, 3⟩).length = qs.length := by simp
      rw [← hlen] at hc1 ⊢
      exact h _ _ C6 ⟨[b'], ld C6 d6, nb.le l0, Rw.mk k6 (qcells_len _) hc1 hc2⟩ (by simpa using hq)
    · exact ret_same (h qs _ C2 ⟨_, ld C2 d02, nb.le l0, w2⟩ hq)
  · have g0 : decide ((qs.length : Int) > 3) = false := by simp; omega
    repeat' (first | simp -implicitDefEqProofs only [zG1,zG2,zG3,zG4,zG5,zG6,zG7,eq_self,resV,rval,X.val,binv,fillL,setR,↓reduceIte,Nat.reduceEqDiff,Nat.reduceAdd,Nat.reduceMul,Nat.reduceLeDiff,Nat.reduceLT,Nat.reduceSub,reduceCtorEq,zGq, g0] | ((with_reducible refine rows_intro (fun _ hb => ?_)); try simp only [set_none, ne_eq] at hb) | ((with_reducible refine new_intro (fun _ hb => ?_)); try simp only [set_none, ne_eq] at hb) | (with_reducible refine draw_same ?_) | ((with_reducible refine gd_split ?_ (fun _ => ?_) (fun _ => ?_)); exact rfl) | ((with_reducible refine td_split ?_ (fun _ => ?_) (fun _ => ?_)); exact rfl) | (with_reducible refine c_split (fun _ => ?_) (fun _ => ?_)))
    exact ret_same hplain
end Go.Proofs.YtodhkodhndbpmaaGreat
namespace Go.Proofs.YtodhkodhndbpmaaGreat
set_option linter.all false
open Go Go.RowKit
/-- Where n jumps lead. -/
def hop (qs : List Qd) : Nat → Int → Int
  | 0, x => x
  | n + 1, x => hop qs n (nAt qs x.toNat)
end Go.Proofs.YtodhkodhndbpmaaGreat
namespace Go.Proofs.YtodhkodhndbpmaaGreat
set_option linter.all false
open Go Go.RowKit
theorem squeeze_le' {qs : List Qd} (hv : codeValid qs = true) : (squeeze qs).length ≤ qs.length := by rw [squeeze_len hv]; exact idx_le _ _
/-- How many quads are of a kind. -/
def cntK (k : Int) (qs : List Qd) : Nat := (qs.filter fun q => q.op == k).length
theorem cntK_app (k : Int) (a b : List Qd) : cntK k (a ++ b) = cntK k a + cntK k b := by simp [cntK]
theorem cntK_snoc (k : Int) (a : List Qd) (q : Qd) : cntK k (a ++ [q]) = cntK k a + if q.op == k then 1 else 0 := by
  rw [cntK_app]; congr 1
  simp only [cntK, List.filter_cons, List.filter_nil]
  split <;> simp_all
theorem cntK_le (k : Int) (a : List Qd) : cntK k a ≤ a.length := List.length_filter_le _ _
/-- The reachable quads. -/
noncomputable def leftQ (qs : List Qd) (k : Nat) : List Qd := (idx (reachL qs) k).map (qAt qs)
theorem leftQ_step {qs : List Qd} {k : Nat} {r : Bool} (hk : k < qs.length) (h : (reachL qs)[k]? = some r) : leftQ qs (k + 1) = if r then leftQ qs k ++ [qs[k]] else leftQ qs k := by
  simp only [leftQ, idx_step _ h]
  cases r <;> simp [qAt_eq hk]
theorem leftQ_le (qs : List Qd) (k : Nat) : (leftQ qs k).length ≤ k := by simp only [leftQ, List.length_map]; exact idx_le _ _
theorem squeeze_kinds {qs : List Qd} (hv : codeValid qs = true) {c : Int} (hc : c ≠ 2 ∧ c ≠ 4 ∧ c ≠ 5) : cntK c (squeeze qs) = cntK c (leftQ qs qs.length) := by
  have key : ∀ k, k ≤ qs.length → cntK c (((idx (keep qs) k).map (qAt qs)).map (moved (keep qs))) = cntK c (leftQ qs k) := by
    intro k
    induction k with
    | zero => intro _; rfl
    | succ k ih =>
      intro hk
      have ih := ih (by omega)
      have hkl : k < qs.length := by omega
      have hr : (reachL qs)[k]? = some ((reachL qs)[k]'(by rw [reachL_len]; omega)) := List.getElem?_eq_getElem _
      generalize hrr : (reachL qs)[k]'(by rw [reachL_len]; omega) = r at hr
      have hka := keep_at hkl hr
      rw [leftQ_step hkl hr, idx_step _ hka]
      cases r with
      | false => simpa using ih
      | true =>
        simp only [Bool.true_and, if_true]
        rw [cntK_snoc, ← ih]
        cases hid : idle qs[k] k with
        | false =>
          simp only [Bool.not_false, if_true, List.map_append, List.map_cons, List.map_nil]
          rw [cntK_snoc, moved_op, qAt_eq hkl]
        | true =>
          have : (qs[k].op == c) = false := by
            simp only [idle] at hid
            split at hid
            · simp; omega
            · split at hid
              · simp; omega
              · cases hid
          simp [this]
  rw [squeeze_eq hv]
  exact key _ (Nat.le_refl _)
end Go.Proofs.YtodhkodhndbpmaaGreat
namespace Go.Proofs.YtodhkodhndbpmaaGreat
set_option linter.all false
open Go Go.RowKit
set_option maxRecDepth 100000
variable (w0 : World) (H : AHeap) (K : Value → AHeap → Prop)
theorem qd_eq (p q : Qd) : decide (p.op = q.op ∧ p.dst = q.dst ∧ p.a = q.a ∧ p.b = q.b ∧ p.n = q.n) = decide (p = q) := by
  cases p; cases q; simp
theorem sameCode_ok (A B : Option Addr) (ca cb : Nat) (xs ys : List Qd) (hx : Fl H A (qcells xs)) (hy : Fl H B (qcells ys)) (hn : xs.length ≤ 4611686018427387904) (h : K (.bool (decide (xs = ys))) H) :
    ACalls Tryz.prog w0 18 [.slice A xs.length ca, .slice B ys.length cb] H K := by
  refine acalls_of_sx mix Tryz.func18 of18 (by simp [ir18]) ?_; rw [ir18]; (try delta qT qI qC qO qM qG)
  repeat' (first | simp -implicitDefEqProofs only [zG1,zG2,zG3,zG4,zG5,zG6,zG7,eq_self,resV,rval,X.val,binv,fillL,setR,↓reduceIte,Nat.reduceEqDiff,Nat.reduceAdd,Nat.reduceMul,Nat.reduceLeDiff,Nat.reduceLT,Nat.reduceSub,reduceCtorEq,zGr] | ((with_reducible refine rows_intro (fun _ hb => ?_)); try simp only [set_none, ne_eq] at hb) | ((with_reducible refine new_intro (fun _ hb => ?_)); try simp only [set_none, ne_eq] at hb) | (with_reducible refine draw_same ?_) | ((with_reducible refine gd_split ?_ (fun _ => ?_) (fun _ => ?_)); exact rfl) | ((with_reducible refine td_split ?_ (fun _ => ?_) (fun _ => ?_)); exact rfl) | (with_reducible refine c_split (fun _ => ?_) (fun _ => ?_)))
  · refine ret_same (kb h ?_)
    (try simp only [beq_iff_eq, beq_eq_false_iff_ne, bne_iff_ne, bne_eq_false_iff_eq, decide_eq_true_eq, decide_eq_false_iff_not, ne_eq, Bool.not_eq_true, Bool.not_eq_false, Bool.not_eq_eq_eq_not, Bool.not_true, Bool.not_false, Int.not_lt, Int.not_le, ge_iff_le, gt_iff_lt] at *)
    simp only [false_eq_decide_iff]
    intro e; subst e; omega
  · refine loop_rule (fun n fr H' => ∃ k : Nat, n = xs.length - k ∧ k ≤ xs.length ∧ H' = H ∧ (∀ i, i < k → xs[i]? = ys[i]?) ∧ fr 0 = .slice A xs.length ca ∧ fr 1 = .slice B ys.length cb ∧ fr 5 = .int .i64 k) xs.length
      ⟨0, rfl, Nat.zero_le _, rfl, fun i hi => absurd hi (Nat.not_lt_zero _), rfl, rfl, rfl⟩ ?_
    rintro n fr _ ⟨k, rfl, hk, rfl, he, h0, h1, h5⟩
    have hl : xs.length = ys.length := by (try simp only [beq_iff_eq, beq_eq_false_iff_ne, bne_iff_ne, bne_eq_false_iff_eq, decide_eq_true_eq, decide_eq_false_iff_not, ne_eq, Bool.not_eq_true, Bool.not_eq_false, Bool.not_eq_eq_eq_not, Bool.not_true, Bool.not_false, Int.not_lt, Int.not_le, ge_iff_le, gt_iff_lt] at *); omega
    by_cases hlt : k < xs.length
    · have hlt' : k < ys.length := by omega
      have g0 := lt_dec hlt
      have g1 := rng hlt
      have g2 := rng hlt'
      have g3 := up1 hlt hn
      have p0 := hx.quad hlt
      have r0 := hy.quad hlt'
      repeat' (first | simp -implicitDefEqProofs only [zG1,zG2,zG3,zG4,zG5,zG6,zG7,eq_self,resV,rval,X.val,binv,fillL,setR,↓reduceIte,Nat.reduceEqDiff,Nat.reduceAdd,Nat.reduceMul,Nat.reduceLeDiff,Nat.reduceLT,Nat.reduceSub,reduceCtorEq,zGr, h0, h1, h5, g0, g1, g2, g3, p0, r0, Nat.add_zero, qd_eq] | ((with_reducible refine rows_intro (fun _ hb => ?_)); try simp only [set_none, ne_eq] at hb) | ((with_reducible refine new_intro (fun _ hb => ?_)); try simp only [set_none, ne_eq] at hb) | (with_reducible refine draw_same ?_) | ((with_reducible refine gd_split ?_ (fun _ => ?_) (fun _ => ?_)); exact rfl) | ((with_reducible refine td_split ?_ (fun _ => ?_) (fun _ => ?_)); exact rfl) | (with_reducible refine c_split (fun _ => ?_) (fun _ => ?_)) | (with_reducible refine eqs_five flatQuad ?_))
      · refine ret_same (kb h ?_)
        (try simp only [beq_iff_eq, beq_eq_false_iff_ne, bne_iff_ne, bne_eq_false_iff_eq, decide_eq_true_eq, decide_eq_false_iff_not, ne_eq, Bool.not_eq_true, Bool.not_eq_false, Bool.not_eq_eq_eq_not, Bool.not_true, Bool.not_false, Int.not_lt, Int.not_le, ge_iff_le, gt_iff_lt] at *)
        simp only [false_eq_decide_iff]
        rintro rfl
        exact absurd rfl ‹¬ xs[k] = _›
      · refine ⟨_, _, ?_, AHeap.le.refl _, k + 1, rfl, by omega, rfl, fun i hi => ?_, by simp [put_at, h0], by simp [put_at, h1], by simp [put_at]⟩
        · omega
        · rcases Nat.lt_succ_iff_lt_or_eq.1 hi with hi | rfl
          · exact he i hi
          · (try simp only [beq_iff_eq, beq_eq_false_iff_ne, bne_iff_ne, bne_eq_false_iff_eq, decide_eq_true_eq, decide_eq_false_iff_not, ne_eq, Bool.not_eq_true, Bool.not_eq_false, Bool.not_eq_eq_eq_not, Bool.not_true, Bool.not_false, Int.not_lt, Int.not_le, ge_iff_le, gt_iff_lt] at *)
            rw [List.getElem?_eq_getElem hlt, List.getElem?_eq_getElem hlt']
            exact congrArg some ‹_›
    · have g0 := ge_dec hlt
      repeat' (first | simp -implicitDefEqProofs only [zG1,zG2,zG3,zG4,zG5,zG6,zG7,eq_self,resV,rval,X.val,binv,fillL,setR,↓reduceIte,Nat.reduceEqDiff,Nat.reduceAdd,Nat.reduceMul,Nat.reduceLeDiff,Nat.reduceLT,Nat.reduceSub,reduceCtorEq,zGr, h0, h1, h5, g0] | ((with_reducible refine rows_intro (fun _ hb => ?_)); try simp only [set_none, ne_eq] at hb) | ((with_reducible refine new_intro (fun _ hb => ?_)); try simp only [set_none, ne_eq] at hb) | (with_reducible refine draw_same ?_) | ((with_reducible refine gd_split ?_ (fun _ => ?_) (fun _ => ?_)); exact rfl) | ((with_reducible refine td_split ?_ (fun _ => ?_) (fun _ => ?_)); exact rfl) | (with_reducible refine c_split (fun _ => ?_) (fun _ => ?_)))
      refine ret_same (kb h ?_)
      simp only [true_eq_decide_iff]
      apply List.ext_getElem?
      intro i
      by_cases hi : i < k
      · exact he i hi
      · rw [List.getElem?_eq_none (by omega), List.getElem?_eq_none (by omega)]
theorem countQuads_ok (A : Option Addr) (c : Nat) (qs : List Qd) (o : Int) (hx : Fl H A (qcells qs)) (hn : qs.length ≤ 4611686018427387904) (h : K (.int .i64 (cntK o qs)) H) :
    ACalls Tryz.prog w0 25 [.slice A qs.length c, .int .i64 o] H K := by
  refine acalls_of_sx mix Tryz.func25 of25 (by simp [ir25]) ?_; rw [ir25]; (try delta qT qI qC qO qM qG)
  repeat' (first | simp -implicitDefEqProofs only [zG1,zG2,zG3,zG4,zG5,zG6,zG7,eq_self,resV,rval,X.val,binv,fillL,setR,↓reduceIte,Nat.reduceEqDiff,Nat.reduceAdd,Nat.reduceMul,Nat.reduceLeDiff,Nat.reduceLT,Nat.reduceSub,reduceCtorEq,zGr] | ((with_reducible refine rows_intro (fun _ hb => ?_)); try simp only [set_none, ne_eq] at hb) | ((with_reducible refine new_intro (fun _ hb => ?_)); try simp only [set_none, ne_eq] at hb) | (with_reducible refine draw_same ?_) | ((with_reducible refine gd_split ?_ (fun _ => ?_) (fun _ => ?_)); exact rfl) | ((with_reducible refine td_split ?_ (fun _ => ?_) (fun _ => ?_)); exact rfl) | (with_reducible refine c_split (fun _ => ?_) (fun _ => ?_)))
  refine for_rule qs.length (fun k fr C => C = H ∧ fr 0 = .slice A qs.length c ∧ fr 1 = .int .i64 o ∧ fr 5 = .int .i64 (cntK o (qs.take k)) ∧ fr 6 = .int .i64 k)
    ⟨rfl, rfl, rfl, rfl, rfl⟩ ?_ ?_
  · rintro k fr _ hk ⟨rfl, f0, f1, f5, f6⟩ N hN
    have g0 := lt_dec hk
    have g1 := rng hk
    have g2 := up1 hk hn
    have p0 := hx.quad hk
    have hc := cntK_le o (qs.take k)
    have g3 : IntKind.i64.wrap ((cntK o (qs.take k) : Int) + 1) = (cntK o (qs.take k) : Int) + 1 := wrap_i64 (by omega) (by rw [List.length_take] at hc; omega)
    have e : cntK o (qs.take (k + 1)) = cntK o (qs.take k) + if qs[k].op == o then 1 else 0 := by
      rw [List.take_add_one, List.getElem?_eq_getElem hk]; exact cntK_snoc _ _ _
    repeat' (first | simp -implicitDefEqProofs only [zG1,zG2,zG3,zG4,zG5,zG6,zG7,eq_self,resV,rval,X.val,binv,fillL,setR,↓reduceIte,Nat.reduceEqDiff,Nat.reduceAdd,Nat.reduceMul,Nat.reduceLeDiff,Nat.reduceLT,Nat.reduceSub,reduceCtorEq,zGr, f0, f1, f5, f6, g0, g1, g2, g3, p0, Nat.add_zero] | ((with_reducible refine rows_intro (fun _ hb => ?_)); try simp only [set_none, ne_eq] at hb) | ((with_reducible refine new_intro (fun _ hb => ?_)); try simp only [set_none, ne_eq] at hb) | (with_reducible refine draw_same ?_) | ((with_reducible refine gd_split ?_ (fun _ => ?_) (fun _ => ?_)); exact rfl) | ((with_reducible refine td_split ?_ (fun _ => ?_) (fun _ => ?_)); exact rfl) | (with_reducible refine c_split (fun _ => ?_) (fun _ => ?_)))
    all_goals refine hN _ _ _ (.refl _) ⟨rfl, (by first | rfl | (simp only [put_at, ↓reduceIte, Nat.reduceEqDiff]; first | done | rfl | assumption) | simp [put_at, *]), (by first | rfl | (simp only [put_at, ↓reduceIte, Nat.reduceEqDiff]; first | done | rfl | assumption) | simp [put_at, *]), ?_, (by first | rfl | (simp only [put_at, ↓reduceIte, Nat.reduceEqDiff]; first | done | rfl | assumption) | simp [put_at, *])⟩
    all_goals (rw [e]; simp [put_at, *])
  · rintro fr _ ⟨rfl, f0, f1, f5, f6⟩ N
    have g0 : decide ((qs.length : Int) < (qs.length : Int)) = false := by simp
    rw [List.take_length] at f5
    repeat' (first | simp -implicitDefEqProofs only [zG1,zG2,zG3,zG4,zG5,zG6,zG7,eq_self,resV,rval,X.val,binv,fillL,setR,↓reduceIte,Nat.reduceEqDiff,Nat.reduceAdd,Nat.reduceMul,Nat.reduceLeDiff,Nat.reduceLT,Nat.reduceSub,reduceCtorEq,zGr, f0, f1, f5, f6, g0] | ((with_reducible refine rows_intro (fun _ hb => ?_)); try simp only [set_none, ne_eq] at hb) | ((with_reducible refine new_intro (fun _ hb => ?_)); try simp only [set_none, ne_eq] at hb) | (with_reducible refine draw_same ?_) | ((with_reducible refine gd_split ?_ (fun _ => ?_) (fun _ => ?_)); exact rfl) | ((with_reducible refine td_split ?_ (fun _ => ?_) (fun _ => ?_)); exact rfl) | (with_reducible refine c_split (fun _ => ?_) (fun _ => ?_)))
    exact ret_same h
end Go.Proofs.YtodhkodhndbpmaaGreat
namespace Go.Proofs.YtodhkodhndbpmaaGreat
set_option linter.all false
open Go Go.RowKit
set_option maxRecDepth 100000
variable (w0 : World) (H : AHeap) (K : Value → AHeap → Prop)
theorem hasEffect_ok (q : Qd) (i : Nat) (hi : i ≤ 1048576) (h : K (.bool (!idle q i)) H) : ACalls Tryz.prog w0 41 [q.val, .int .i64 i] H K := by
  have e1 : IntKind.i64.wrap ((i : Int) + 1) = (i : Int) + 1 := wrap_i64 (by omega) (by omega)
  refine acalls_of_sx mix Tryz.func41 of41 (by simp [ir41]) ?_; rw [ir41]; (try delta qT qI qC qO qM qG)
  repeat' (first | simp -implicitDefEqProofs only [zG1,zG2,zG3,zG4,zG5,zG6,zG7,eq_self,resV,rval,X.val,binv,fillL,setR,↓reduceIte,Nat.reduceEqDiff,Nat.reduceAdd,Nat.reduceMul,Nat.reduceLeDiff,Nat.reduceLT,Nat.reduceSub,reduceCtorEq,zGr, q_val, e1] | ((with_reducible refine rows_intro (fun _ hb => ?_)); try simp only [set_none, ne_eq] at hb) | ((with_reducible refine new_intro (fun _ hb => ?_)); try simp only [set_none, ne_eq] at hb) | (with_reducible refine draw_same ?_) | ((with_reducible refine gd_split ?_ (fun _ => ?_) (fun _ => ?_)); exact rfl) | ((with_reducible refine td_split ?_ (fun _ => ?_) (fun _ => ?_)); exact rfl) | (with_reducible refine c_split (fun _ => ?_) (fun _ => ?_)) | (with_reducible refine hasTarget_ok _ _ _ q ?_))
  all_goals (refine ⟨H, (AHeap.le.refl H).fresh ‹_› _, kb h ?_⟩)
  all_goals (try simp only [beq_iff_eq, beq_eq_false_iff_ne, bne_iff_ne, bne_eq_false_iff_eq, decide_eq_true_eq, decide_eq_false_iff_not, ne_eq, Bool.not_eq_true, Bool.not_eq_false, Bool.not_eq_eq_eq_not, Bool.not_true, Bool.not_false, Int.not_lt, Int.not_le, ge_iff_le, gt_iff_lt] at *)
  all_goals (simp only [idle]; grind)
theorem squeezeCode_ok (A : Option Addr) (c : Nat) (qs : List Qd) (hx : Fl H A (qcells qs)) (h : ∀ v C bs, AHeap.le H C → New H bs → Rw C 36 5 v (squeeze qs).length (qcells (squeeze qs)) bs → K (.tuple #[v, .bool (codeValid qs)]) C) :
    ACalls Tryz.prog w0 23 [.slice A qs.length c] H K := by
  cases hv : codeValid qs with
  | false =>
    have e : squeeze qs = [] := by simp [squeeze, hv]
    rw [e, hv] at h
    refine acalls_of_sx mix Tryz.func23 of23 (by simp [ir23]) ?_; rw [ir23]; (try delta qT qI qC qO qM qG)
    repeat' (first | simp -implicitDefEqProofs only [zG1,zG2,zG3,zG4,zG5,zG6,zG7,eq_self,resV,rval,X.val,binv,fillL,setR,↓reduceIte,Nat.reduceEqDiff,Nat.reduceAdd,Nat.reduceMul,Nat.reduceLeDiff,Nat.reduceLT,Nat.reduceSub,reduceCtorEq,zGq, hv] | ((with_reducible refine rows_intro (fun _ hb => ?_)); try simp only [set_none, ne_eq] at hb) | ((with_reducible refine new_intro (fun _ hb => ?_)); try simp only [set_none, ne_eq] at hb) | (with_reducible refine draw_same ?_) | ((with_reducible refine gd_split ?_ (fun _ => ?_) (fun _ => ?_)); exact rfl) | ((with_reducible refine td_split ?_ (fun _ => ?_) (fun _ => ?_)); exact rfl) | (with_reducible refine c_split (fun _ => ?_) (fun _ => ?_)) | (with_reducible refine codeValid_ok _ _ _ _ _ _ hx ?_))
    exact ret_same (h _ _ [] (.refl _) (New.nil _) (Rw.nil_ _ _ _))
  | true =>
    have hc := code_at hv
    rw [squeeze_eq hv, hv] at h
    have er : codeReach qs = reachL qs := by simp [codeReach, hv]
    generalize hks : keep qs = ks at h
    refine acalls_of_sx mix Tryz.func23 of23 (by simp [ir23]) ?_; rw [ir23]; (try delta qT qI qC qO qM qG)
    repeat' (first | simp -implicitDefEqProofs only [zG1,zG2,zG3,zG4,zG5,zG6,zG7,eq_self,resV,rval,X.val,binv,fillL,setR,↓reduceIte,Nat.reduceEqDiff,Nat.reduceAdd,Nat.reduceMul,Nat.reduceLeDiff,Nat.reduceLT,Nat.reduceSub,reduceCtorEq,zGq, hv, adr_lit, repl_zero, Nat.zero_mul] | ((with_reducible refine rows_intro (fun _ hb => ?_)); try simp only [set_none, ne_eq] at hb) | ((with_reducible refine new_intro (fun _ hb => ?_)); try simp only [set_none, ne_eq] at hb) | (with_reducible refine draw_same ?_) | ((with_reducible refine gd_split ?_ (fun _ => ?_) (fun _ => ?_)); exact rfl) | ((with_reducible refine td_split ?_ (fun _ => ?_) (fun _ => ?_)); exact rfl) | (with_reducible refine c_split (fun _ => ?_) (fun _ => ?_)) | (with_reducible refine codeValid_ok _ _ _ _ _ _ hx ?_) | (with_reducible refine mk_intro (by omega) (by omega) (fun b hb => ?_)))
    refine codeReach_ok _ _ _ A c qs (hx.fresh hb _) (fun v1 C1 bs1 l1 n1 w1 => ?_)
    rw [er, reachL_len] at w1
    obtain ⟨A1, e1, rfl, -⟩ := w1.fl
    have kb1 := (Kn.same H b ⟨nats (List.replicate qs.length 0), true, 3, qs.length * 1⟩).trans l1
    have hb1 : ¬ b ∈ bs1 := fun hm => by have := n1 b hm; rw [set_same] at this; cases this
    repeat' (first | simp -implicitDefEqProofs only [zG1,zG2,zG3,zG4,zG5,zG6,zG7,eq_self,resV,rval,X.val,binv,fillL,setR,↓reduceIte,Nat.reduceEqDiff,Nat.reduceAdd,Nat.reduceMul,Nat.reduceLeDiff,Nat.reduceLT,Nat.reduceSub,reduceCtorEq,zGq] | ((with_reducible refine rows_intro (fun _ hb => ?_)); try simp only [set_none, ne_eq] at hb) | ((with_reducible refine new_intro (fun _ hb => ?_)); try simp only [set_none, ne_eq] at hb) | (with_reducible refine draw_same ?_) | ((with_reducible refine gd_split ?_ (fun _ => ?_) (fun _ => ?_)); exact rfl) | ((with_reducible refine td_split ?_ (fun _ => ?_) (fun _ => ?_)); exact rfl) | (with_reducible refine c_split (fun _ => ?_) (fun _ => ?_)))
    refine for_rule qs.length (fun k fr C => ∃ (v : Value) (bs : List Nat), AHeap.le H C ∧ Kn C b ⟨nats (numsTo ks qs.length k), true, 3, qs.length * 1⟩ ∧ Rw C 4 1 (.slice A1 qs.length e1) qs.length (bools (reachL qs)) bs1 ∧ Rw C 36 5 v (place ks k) (qcells ((idx ks k).map (qAt qs))) bs ∧
      New H bs ∧ (∀ x, x ∈ bs → ¬ x = b ∧ ¬ x ∈ bs1) ∧ fr 0 = .slice A qs.length c ∧ fr 4 = .slice (some ⟨b, 0, none⟩) qs.length qs.length ∧ fr 5 = v ∧ fr 17 = .slice A1 qs.length e1 ∧ fr 18 = .int .i64 qs.length ∧ fr 19 = .int .i64 k)
      ⟨_, [], ((AHeap.le.refl H).fresh hb _).trans l1, by rw [numsTo_zero]; exact kb1, w1, Rw.nil_ _ _ _, New.nil _, fun x hx => (by cases hx), (by first | rfl | (simp only [put_at, ↓reduceIte, Nat.reduceEqDiff]; first | done | rfl | assumption) | simp [put_at, *]), (by first | rfl | (simp only [put_at, ↓reduceIte, Nat.reduceEqDiff]; first | done | rfl | assumption) | simp [put_at, *]), rfl, (by first | rfl | (simp only [put_at, ↓reduceIte, Nat.reduceEqDiff]; first | done | rfl | assumption) | simp [put_at, *]), (by first | rfl | (simp only [put_at, ↓reduceIte, Nat.reduceEqDiff]; first | done | rfl | assumption) | simp [put_at, *]), (by first | rfl | (simp only [put_at, ↓reduceIte, Nat.reduceEqDiff]; first | done | rfl | assumption) | simp [put_at, *])⟩ ?_ ?_
    · rintro k fr C hk ⟨v, bs, hl, kn, wr, wo, hn, hd, f0, f4, f5, f17, f18, f19⟩ N hN
      obtain ⟨A5, e5, rfl, -⟩ := wo.fl
      have g0 := lt_dec hk
      have g1 := rng hk
      have g2 := up1 hk (by omega)
      have hrk : (reachL qs)[k]? = some ((reachL qs)[k]'(by rw [reachL_len]; exact hk)) := List.getElem?_eq_getElem _
      have q1 := wr.fl'.1.bool (i := k) (by rw [reachL_len]; exact hk)
      have q2 := wr.fl'.1.bools_is (i := k) (by rw [reachL_len]; exact hk)
      have hpl := idx_le ks k
      generalize hr : (reachL qs)[k]'(by rw [reachL_len]; exact hk) = r at hrk q1
      have hkk := keep_at hk hrk
      rw [hks] at hkk
      repeat' (first | simp -implicitDefEqProofs only [zG1,zG2,zG3,zG4,zG5,zG6,zG7,eq_self,resV,rval,X.val,binv,fillL,setR,↓reduceIte,Nat.reduceEqDiff,Nat.reduceAdd,Nat.reduceMul,Nat.reduceLeDiff,Nat.reduceLT,Nat.reduceSub,reduceCtorEq,zGq, f0, f4, f5, f17, f18, f19, g0, g1, g2, q1, q2, adr_lit, Nat.mul_one, Nat.zero_add] | ((with_reducible refine rows_intro (fun _ hb => ?_)); try simp only [set_none, ne_eq] at hb) | ((with_reducible refine new_intro (fun _ hb => ?_)); try simp only [set_none, ne_eq] at hb) | (with_reducible refine draw_same ?_) | ((with_reducible refine gd_split ?_ (fun _ => ?_) (fun _ => ?_)); exact rfl) | ((with_reducible refine td_split ?_ (fun _ => ?_) (fun _ => ?_)); exact rfl) | (with_reducible refine c_split (fun _ => ?_) (fun _ => ?_)))
      refine st_kn kn rfl rfl (by simp [nats_len, numsTo_len]; omega) (by simp [vcI, ocI]) (fun C2 hc2 ho2 k2 => ?_)
      have l2 := hc2.keep hl (New.one hb)
      have k2' : Kn C2 b ⟨nats (numsTo ks qs.length (k + 1)), true, 3, qs.length * 1⟩ := by rw [← numsTo_set hk]; exact k2
      have wr2 := wr.chg hc2 (fun x hx e => hb1 (by simp at e; exact e ▸ hx))
      have wo2 := wo.chg hc2 (fun x hx e => (hd x hx).1 (by simpa using e))
      have p0 := (hx.le l2).quad hk
      have hst := idx_step ks hkk
      cases r with
      | false =>
        simp only [Bool.false_and] at hst
        repeat' (first | simp -implicitDefEqProofs only [zG1,zG2,zG3,zG4,zG5,zG6,zG7,eq_self,resV,rval,X.val,binv,fillL,setR,↓reduceIte,Nat.reduceEqDiff,Nat.reduceAdd,Nat.reduceMul,Nat.reduceLeDiff,Nat.reduceLT,Nat.reduceSub,reduceCtorEq,zGq, f0, f4, f5, f17, f18, f19, g2] | ((with_reducible refine rows_intro (fun _ hb => ?_)); try simp only [set_none, ne_eq] at hb) | ((with_reducible refine new_intro (fun _ hb => ?_)); try simp only [set_none, ne_eq] at hb) | (with_reducible refine draw_same ?_) | ((with_reducible refine gd_split ?_ (fun _ => ?_) (fun _ => ?_)); exact rfl) | ((with_reducible refine td_split ?_ (fun _ => ?_) (fun _ => ?_)); exact rfl) | (with_reducible refine c_split (fun _ => ?_) (fun _ => ?_)))
        exact hN _ _ _ (.refl _) ⟨_, bs, l2, k2', wr2, by rw [place, hst]; exact wo2, hn, hd, (by first | rfl | (simp only [put_at, ↓reduceIte, Nat.reduceEqDiff]; first | done | rfl | assumption) | simp [put_at, *]), (by first | rfl | (simp only [put_at, ↓reduceIte, Nat.reduceEqDiff]; first | done | rfl | assumption) | simp [put_at, *]), (by first | rfl | (simp only [put_at, ↓reduceIte, Nat.reduceEqDiff]; first | done | rfl | assumption) | simp [put_at, *]), (by first | rfl | (simp only [put_at, ↓reduceIte, Nat.reduceEqDiff]; first | done | rfl | assumption) | simp [put_at, *]), (by first | rfl | (simp only [put_at, ↓reduceIte, Nat.reduceEqDiff]; first | done | rfl | assumption) | simp [put_at, *]), (by first | rfl | (simp only [put_at, ↓reduceIte, Nat.reduceEqDiff]; first | done | rfl | assumption) | simp [put_at, *])⟩
      | true =>
        simp only [Bool.true_and] at hst
        repeat' (first | simp -implicitDefEqProofs only [zG1,zG2,zG3,zG4,zG5,zG6,zG7,eq_self,resV,rval,X.val,binv,fillL,setR,↓reduceIte,Nat.reduceEqDiff,Nat.reduceAdd,Nat.reduceMul,Nat.reduceLeDiff,Nat.reduceLT,Nat.reduceSub,reduceCtorEq,zGq, f0, f4, f5, f17, f18, f19, g1, g2, p0, Nat.add_zero] | ((with_reducible refine rows_intro (fun _ hb => ?_)); try simp only [set_none, ne_eq] at hb) | ((with_reducible refine new_intro (fun _ hb => ?_)); try simp only [set_none, ne_eq] at hb) | (with_reducible refine draw_same ?_) | ((with_reducible refine gd_split ?_ (fun _ => ?_) (fun _ => ?_)); exact rfl) | ((with_reducible refine td_split ?_ (fun _ => ?_) (fun _ => ?_)); exact rfl) | (with_reducible refine c_split (fun _ => ?_) (fun _ => ?_)) | (with_reducible refine hasEffect_ok _ _ _ qs[k] k (by omega) ?_))
        · rename_i hid b6
          have hid' : idle qs[k] k = false := by simpa using hid
          rw [hid'] at hst
          have kn6 := k2'.fresh hb ⟨qs[k].cells, true, 36, 5⟩
          have wr6 := wr2.trans ((AHeap.le.refl C2).fresh hb ⟨qs[k].cells, true, 36, 5⟩)
          have wo6 := wo2.trans ((AHeap.le.refl C2).fresh hb ⟨qs[k].cells, true, 36, 5⟩)
          have l6 := le_fresh0 l2 (l2.none hb) ⟨qs[k].cells, true, 36, 5⟩
          refine app_rw (news := qs[k].cells) wo6 (Fl.blk _ _ _ _ fun _ _ h => h) rfl (q5_oc _) (by simp only [maxLen, place]; omega) (by simp only [place]; omega) (fun v' C7 bs7 hc7 hn7 w7 => ?_)
          repeat' (first | simp -implicitDefEqProofs only [zG1,zG2,zG3,zG4,zG5,zG6,zG7,eq_self,resV,rval,X.val,binv,fillL,setR,↓reduceIte,Nat.reduceEqDiff,Nat.reduceAdd,Nat.reduceMul,Nat.reduceLeDiff,Nat.reduceLT,Nat.reduceSub,reduceCtorEq,zGq, f0, f4, f5, f17, f18, f19, g2] | ((with_reducible refine rows_intro (fun _ hb => ?_)); try simp only [set_none, ne_eq] at hb) | ((with_reducible refine new_intro (fun _ hb => ?_)); try simp only [set_none, ne_eq] at hb) | (with_reducible refine draw_same ?_) | ((with_reducible refine gd_split ?_ (fun _ => ?_) (fun _ => ?_)); exact rfl) | ((with_reducible refine td_split ?_ (fun _ => ?_) (fun _ => ?_)); exact rfl) | (with_reducible refine c_split (fun _ => ?_) (fun _ => ?_)))
          have hd' : ∀ x, x ∈ bs7 → H x = none ∧ ¬ x = b ∧ ¬ x ∈ bs1 := fun x hx => by
            rcases hn7 x hx with hm | hm
            · exact ⟨hn x hm, hd x hm⟩
            · exact ⟨l6.none hm, fun e => kn6.ne (e ▸ hm), fun e => New.off (C' := C2) (New.one hm) wr6 x e (by simp)⟩
          refine hN _ _ _ (.refl _) ⟨v', bs7, hc7.keep l6 hn, kn6.chg hc7 (fun e => (hd b e).1 rfl), wr6.chg hc7 (fun x hx e => (hd x e).2 hx), ?_, fun x hx => (hd' x hx).1, fun x hx => (hd' x hx).2, (by first | rfl | (simp only [put_at, ↓reduceIte, Nat.reduceEqDiff]; first | done | rfl | assumption) | simp [put_at, *]), (by first | rfl | (simp only [put_at, ↓reduceIte, Nat.reduceEqDiff]; first | done | rfl | assumption) | simp [put_at, *]), (by first | rfl | (simp only [put_at, ↓reduceIte, Nat.reduceEqDiff]; first | done | rfl | assumption) | simp [put_at, *]), (by first | rfl | (simp only [put_at, ↓reduceIte, Nat.reduceEqDiff]; first | done | rfl | assumption) | simp [put_at, *]), (by first | rfl | (simp only [put_at, ↓reduceIte, Nat.reduceEqDiff]; first | done | rfl | assumption) | simp [put_at, *]), (by first | rfl | (simp only [put_at, ↓reduceIte, Nat.reduceEqDiff]; first | done | rfl | assumption) | simp [put_at, *])⟩
          rw [place, hst]
          simp only [Bool.not_false, if_true, List.map_append, List.length_append, List.length_cons, List.length_nil, List.map_cons, List.map_nil, qcells_snoc, qAt_eq hk]
          exact w7
        · rename_i hid
          have hid' : idle qs[k] k = true := by simpa using hid
          rw [hid'] at hst
          exact hN _ _ _ (.refl _) ⟨_, bs, l2, k2', wr2, by rw [place, hst]; exact wo2, hn, hd, (by first | rfl | (simp only [put_at, ↓reduceIte, Nat.reduceEqDiff]; first | done | rfl | assumption) | simp [put_at, *]), (by first | rfl | (simp only [put_at, ↓reduceIte, Nat.reduceEqDiff]; first | done | rfl | assumption) | simp [put_at, *]), (by first | rfl | (simp only [put_at, ↓reduceIte, Nat.reduceEqDiff]; first | done | rfl | assumption) | simp [put_at, *]), (by first | rfl | (simp only [put_at, ↓reduceIte, Nat.reduceEqDiff]; first | done | rfl | assumption) | simp [put_at, *]), (by first | rfl | (simp only [put_at, ↓reduceIte, Nat.reduceEqDiff]; first | done | rfl | assumption) | simp [put_at, *]), (by first | rfl | (simp only [put_at, ↓reduceIte, Nat.reduceEqDiff]; first | done | rfl | assumption) | simp [put_at, *])⟩
    · rintro fr C ⟨v, bs, hl, kn, wr, wo, hn, hd, f0, f4, f5, f17, f18, f19⟩ N
      obtain ⟨A5, e5, rfl, -⟩ := wo.fl
      have g0 : decide ((qs.length : Int) < (qs.length : Int)) = false := by simp
      repeat' (first | simp -implicitDefEqProofs only [zG1,zG2,zG3,zG4,zG5,zG6,zG7,eq_self,resV,rval,X.val,binv,fillL,setR,↓reduceIte,Nat.reduceEqDiff,Nat.reduceAdd,Nat.reduceMul,Nat.reduceLeDiff,Nat.reduceLT,Nat.reduceSub,reduceCtorEq,zGq, f0, f4, f5, f17, f18, f19, g0] | ((with_reducible refine rows_intro (fun _ hb => ?_)); try simp only [set_none, ne_eq] at hb) | ((with_reducible refine new_intro (fun _ hb => ?_)); try simp only [set_none, ne_eq] at hb) | (with_reducible refine draw_same ?_) | ((with_reducible refine gd_split ?_ (fun _ => ?_) (fun _ => ?_)); exact rfl) | ((with_reducible refine td_split ?_ (fun _ => ?_) (fun _ => ?_)); exact rfl) | (with_reducible refine c_split (fun _ => ?_) (fun _ => ?_)))
      generalize hraw : (idx ks qs.length).map (qAt qs) = raw at h wo
      have hrl : place ks qs.length = raw.length := by rw [← hraw]; simp [place]
      have hrn : raw.length ≤ qs.length := by rw [← hrl]; exact idx_le _ _
      have hrv : ∀ i (hi : i < raw.length), raw[i].op = 4 ∨ raw[i].op = 5 → 0 ≤ raw[i].n ∧ raw[i].n < qs.length := by
        intro i hi ho
        have hm : raw[i] ∈ (idx ks qs.length).map (qAt qs) := by rw [hraw]; exact List.getElem_mem hi
        obtain ⟨j, hj, e⟩ := List.mem_map.1 hm
        have hjn := (idx_mem hj).1
        rw [qAt_eq hjn] at e
        rw [← e] at ho ⊢
        exact zero_in (hc.2.2 j hjn) ho
      rw [hrl] at wo f5 ⊢
      refine for_rule raw.length (fun k fr C => AHeap.le H C ∧ Kn C b ⟨nats (numsTo ks qs.length qs.length), true, 3, qs.length * 1⟩ ∧ Rw C 36 5 (.slice A5 raw.length e5) raw.length (qcells (midway ks raw k)) bs ∧
        fr 4 = .slice (some ⟨b, 0, none⟩) qs.length qs.length ∧ fr 5 = .slice A5 raw.length e5 ∧ fr 46 = .slice A5 raw.length e5 ∧ fr 47 = .int .i64 raw.length ∧ fr 48 = .int .i64 k)
        ⟨hl, kn, by simpa [midway] using wo, (by first | rfl | (simp only [put_at, ↓reduceIte, Nat.reduceEqDiff]; first | done | rfl | assumption) | simp [put_at, *]), (by first | rfl | (simp only [put_at, ↓reduceIte, Nat.reduceEqDiff]; first | done | rfl | assumption) | simp [put_at, *]), (by first | rfl | (simp only [put_at, ↓reduceIte, Nat.reduceEqDiff]; first | done | rfl | assumption) | simp [put_at, *]), (by first | rfl | (simp only [put_at, ↓reduceIte, Nat.reduceEqDiff]; first | done | rfl | assumption) | simp [put_at, *]), (by first | rfl | (simp only [put_at, ↓reduceIte, Nat.reduceEqDiff]; first | done | rfl | assumption) | simp [put_at, *])⟩ ?_ ?_
      · rintro k fr C hk ⟨hl, kn, wo, f4, f5, f46, f47, f48⟩ N hN
        have g0 := lt_dec hk
        have g1 := rng hk
        have g2 := up1 hk (by omega)
        obtain ⟨b5, c5, eA, rfl, hl5, hm5, hx5, k5⟩ := wo.open_ (by omega)
        simp only [Value.slice.injEq] at eA
        obtain ⟨rfl, -, rfl⟩ := eA
        have hmk : k < (midway ks raw k).length := by rw [midway_len]; exact hk
        have p0 := wo.fl'.1.quad hmk
        have hmq : (midway ks raw k)[k] = raw[k] := by have := midway_at (ks := ks) hk; rw [List.getElem?_eq_getElem hmk] at this; exact Option.some.inj this
        rw [hmq] at p0
        simp only [adr_lit, Nat.zero_add, Option.isSome_some, true_and] at p0
        by_cases ho : raw[k].op = 4 ∨ raw[k].op = 5
        · have d1 : (raw[k].op == 4 || raw[k].op == 5) = true := by simpa using ho
          obtain ⟨hn0, hn1⟩ := hrv k hk ho
          obtain ⟨t, ht⟩ : ∃ t : Nat, raw[k].n = (t : Int) := ⟨raw[k].n.toNat, by omega⟩
          have htn : t < qs.length := by omega
          have g3 := rng htn
          have q1 : C.cell (some ⟨b, t, none⟩) = some (.int .i64 ((place ks t : Nat) : Int)) := kn.cell (by simp [nats, numsTo, htn])
          have hset := set_n hmk ((place ks t : Nat) : Int)
          have hmv : moved ks raw[k] = ⟨raw[k].op, raw[k].dst, raw[k].a, raw[k].b, ((place ks t : Nat) : Int)⟩ := by simp [moved, ho, ht]
          rw [hmq, ← hmv, midway_set hk] at hset
          rw [ht] at p0
          have hqv : raw[k].val = .agg #[.int .i64 raw[k].op, .int .i64 raw[k].dst, .int .i64 raw[k].a, .int .i64 raw[k].b, .int .i64 (t : Int)] := by rw [q_val, ht]
          repeat' (first | simp -implicitDefEqProofs only [zG1,zG2,zG3,zG4,zG5,zG6,zG7,eq_self,resV,rval,X.val,binv,fillL,setR,↓reduceIte,Nat.reduceEqDiff,Nat.reduceAdd,Nat.reduceMul,Nat.reduceLeDiff,Nat.reduceLT,Nat.reduceSub,reduceCtorEq,zGq, f4, f5, f46, f47, f48, g0, g1, g2, g3, p0, q1, adr_lit, Nat.zero_add, Nat.add_zero, Nat.mul_one] | ((with_reducible refine rows_intro (fun _ hb => ?_)); try simp only [set_none, ne_eq] at hb) | ((with_reducible refine new_intro (fun _ hb => ?_)); try simp only [set_none, ne_eq] at hb) | (with_reducible refine draw_same ?_) | ((with_reducible refine gd_split ?_ (fun _ => ?_) (fun _ => ?_)); exact rfl) | ((with_reducible refine td_split ?_ (fun _ => ?_) (fun _ => ?_)); exact rfl) | (with_reducible refine c_split (fun _ => ?_) (fun _ => ?_)))
          rw [← hqv]
          refine hasTarget_ok _ _ _ raw[k] ?_
          rw [d1]
          repeat' (first | simp -implicitDefEqProofs only [zG1,zG2,zG3,zG4,zG5,zG6,zG7,eq_self,resV,rval,X.val,binv,fillL,setR,↓reduceIte,Nat.reduceEqDiff,Nat.reduceAdd,Nat.reduceMul,Nat.reduceLeDiff,Nat.reduceLT,Nat.reduceSub,reduceCtorEq,zGq, f4, f5, f46, f47, f48, g0, g1, g2, g3, p0, q1, hb, adr_lit, Nat.zero_add, Nat.add_zero, Nat.mul_one] | ((with_reducible refine rows_intro (fun _ hb => ?_)); try simp only [set_none, ne_eq] at hb) | ((with_reducible refine new_intro (fun _ hb => ?_)); try simp only [set_none, ne_eq] at hb) | (with_reducible refine draw_same ?_) | ((with_reducible refine gd_split ?_ (fun _ => ?_) (fun _ => ?_)); exact rfl) | ((with_reducible refine td_split ?_ (fun _ => ?_) (fun _ => ?_)); exact rfl) | (with_reducible refine c_split (fun _ => ?_) (fun _ => ?_)))
          have hbb : ¬ b5 = b := (hd b5 (by simp)).1
          refine st_kn (k5.fresh hb _) rfl rfl (by simp [qcells_len, midway_len]; omega) (by simp [vcI, ocI]) (fun C6 hc6 ho6 k6 => ?_)
          have k6' : Kn C6 b5 ⟨qcells (midway ks raw (k + 1)), true, 36, e5 * 5⟩ := by rw [← hset]; exact k6
          repeat' (first | simp -implicitDefEqProofs only [zG1,zG2,zG3,zG4,zG5,zG6,zG7,eq_self,resV,rval,X.val,binv,fillL,setR,↓reduceIte,Nat.reduceEqDiff,Nat.reduceAdd,Nat.reduceMul,Nat.reduceLeDiff,Nat.reduceLT,Nat.reduceSub,reduceCtorEq,zGq, f4, f5, f46, f47, f48, g2] | ((with_reducible refine rows_intro (fun _ hb => ?_)); try simp only [set_none, ne_eq] at hb) | ((with_reducible refine new_intro (fun _ hb => ?_)); try simp only [set_none, ne_eq] at hb) | (with_reducible refine draw_same ?_) | ((with_reducible refine gd_split ?_ (fun _ => ?_) (fun _ => ?_)); exact rfl) | ((with_reducible refine td_split ?_ (fun _ => ?_) (fun _ => ?_)); exact rfl) | (with_reducible refine c_split (fun _ => ?_) (fun _ => ?_)))
          exact hN _ _ _ (.refl _) ⟨hc6.keep (le_fresh0 hl (hl.none hb) _) hn, (kn.fresh hb _).chg hc6 (by simpa using fun e => hbb e.symm), Rw.mk k6' (by rw [qcells_len, midway_len]) hl5 hm5, (by first | rfl | (simp only [put_at, ↓reduceIte, Nat.reduceEqDiff]; first | done | rfl | assumption) | simp [put_at, *]), (by first | rfl | (simp only [put_at, ↓reduceIte, Nat.reduceEqDiff]; first | done | rfl | assumption) | simp [put_at, *]), (by first | rfl | (simp only [put_at, ↓reduceIte, Nat.reduceEqDiff]; first | done | rfl | assumption) | simp [put_at, *]), (by first | rfl | (simp only [put_at, ↓reduceIte, Nat.reduceEqDiff]; first | done | rfl | assumption) | simp [put_at, *]), (by first | rfl | (simp only [put_at, ↓reduceIte, Nat.reduceEqDiff]; first | done | rfl | assumption) | simp [put_at, *])⟩
        · have d1 : (raw[k].op == 4 || raw[k].op == 5) = false := by simpa using ho
          have hmv : moved ks raw[k] = raw[k] := by simp only [moved, if_neg ho]
          repeat' (first | simp -implicitDefEqProofs only [zG1,zG2,zG3,zG4,zG5,zG6,zG7,eq_self,resV,rval,X.val,binv,fillL,setR,↓reduceIte,Nat.reduceEqDiff,Nat.reduceAdd,Nat.reduceMul,Nat.reduceLeDiff,Nat.reduceLT,Nat.reduceSub,reduceCtorEq,zGq, f4, f5, f46, f47, f48, g0, g1, g2, p0, d1, adr_lit, Nat.zero_add, Nat.add_zero] | ((with_reducible refine rows_intro (fun _ hb => ?_)); try simp only [set_none, ne_eq] at hb) | ((with_reducible refine new_intro (fun _ hb => ?_)); try simp only [set_none, ne_eq] at hb) | (with_reducible refine draw_same ?_) | ((with_reducible refine gd_split ?_ (fun _ => ?_) (fun _ => ?_)); exact rfl) | ((with_reducible refine td_split ?_ (fun _ => ?_) (fun _ => ?_)); exact rfl) | (with_reducible refine c_split (fun _ => ?_) (fun _ => ?_)) | (with_reducible refine hasTarget_ok _ _ _ raw[k] ?_))
          exact hN _ _ C ((AHeap.le.refl C).fresh hb _) ⟨hl, kn, by rw [← midway_skip hk hmv]; exact wo, (by first | rfl | (simp only [put_at, ↓reduceIte, Nat.reduceEqDiff]; first | done | rfl | assumption) | simp [put_at, *]), (by first | rfl | (simp only [put_at, ↓reduceIte, Nat.reduceEqDiff]; first | done | rfl | assumption) | simp [put_at, *]), (by first | rfl | (simp only [put_at, ↓reduceIte, Nat.reduceEqDiff]; first | done | rfl | assumption) | simp [put_at, *]), (by first | rfl | (simp only [put_at, ↓reduceIte, Nat.reduceEqDiff]; first | done | rfl | assumption) | simp [put_at, *]), (by first | rfl | (simp only [put_at, ↓reduceIte, Nat.reduceEqDiff]; first | done | rfl | assumption) | simp [put_at, *])⟩
      · rintro fr C ⟨hl, kn, wo, f4, f5, f46, f47, f48⟩ N
        have g0 : decide ((raw.length : Int) < (raw.length : Int)) = false := by simp
        repeat' (first | simp -implicitDefEqProofs only [zG1,zG2,zG3,zG4,zG5,zG6,zG7,eq_self,resV,rval,X.val,binv,fillL,setR,↓reduceIte,Nat.reduceEqDiff,Nat.reduceAdd,Nat.reduceMul,Nat.reduceLeDiff,Nat.reduceLT,Nat.reduceSub,reduceCtorEq,zGq, f4, f5, f46, f47, f48, g0] | ((with_reducible refine rows_intro (fun _ hb => ?_)); try simp only [set_none, ne_eq] at hb) | ((with_reducible refine new_intro (fun _ hb => ?_)); try simp only [set_none, ne_eq] at hb) | (with_reducible refine draw_same ?_) | ((with_reducible refine gd_split ?_ (fun _ => ?_) (fun _ => ?_)); exact rfl) | ((with_reducible refine td_split ?_ (fun _ => ?_) (fun _ => ?_)); exact rfl) | (with_reducible refine c_split (fun _ => ?_) (fun _ => ?_)))
        refine ret_same (h _ _ bs hl hn ?_)
        rw [List.length_map]
        simpa [midway] using wo
end Go.Proofs.YtodhkodhndbpmaaGreat
namespace Go.Proofs.YtodhkodhndbpmaaGreat
set_option linter.all false
open Go Go.RowKit Go.Joins Go.ChangeShapes Go.WideShapes Go.ChangeAt Go.Deep
set_option linter.unusedVariables false
set_option maxRecDepth 100000
theorem own : ownKnob Tryz.prog.godebug = none := by kernel_rfl
theorem laidOut : laidOutB Tryz.prog = true := by kernel_rfl
theorem calls_true {P : Program} {w0 : World} {H : AHeap} {f : Nat} {args : List Value} (h : ACalls P w0 f args H fun v _ => v = .bool true) (hs : Sat w0 H w0) :
    Calls P f args.toArray w0 fun e w' => e = .returned (.bool true) ∧ Below w0.heap.size w0 w' :=
  (h.2 w0 hs).mono fun e w' ⟨v, H', he, hs', hv⟩ => ⟨by rw [he, hv], hs'.below⟩
/-- The heap that is there: for reading alone. -/
def heapOf (w : World) : AHeap := fun b => match w.heap[b]? with
  | some (.cells c t _) => some ⟨c.toList, false, t, c.size⟩
  | _ => none
theorem sat_heap (w : World) : Sat w (heapOf w) w := ⟨Below.refl _ _, fun b k hk => by
  unfold heapOf at hk
  split at hk
  · rename_i c t fz hw
    obtain rfl := Option.some.inj hk
    exact ⟨c, fz, hw, rfl, fun j v hv => by simpa using hv, fun h => by cases h⟩
  · cases hk⟩
theorem heap_cell {w : World} {a : Addr} {v : Value} (h : w.cell? a = some v) : (heapOf w).cell (some a) = some v := by
  simp only [World.cell?] at h
  simp only [AHeap.cell, heapOf]
  split at h
  · rename_i c t fz hw
    rw [hw]
    split at h
    · cases h
    · rename_i hs
      rw [if_neg hs]
      simpa using h
  · cases h
section
variable {H : Type} {enc : TypeId × Value → H} {P : Program} {w : World} {base : Nat} {spare : Nat → Bool} {held : Bool}
theorem open_bytes {t e : TypeId} {a : Option Addr} {len cap : Nat} {d : DataW H} {p : List MemPlace} (ht : P.underlying t = some (.slice e)) (he : P.underlying e = some (.int .u8)) (hc : P.cellsOf e = 1)
    (h : DataW.Trod enc P w base spare held t (.slice a len cap) d p) : ∃ zs : List Int, zs.length = len ∧ (len ≤ cap ∧ len ≤ maxLen ∧ ∀ z ∈ zs, 0 ≤ z ∧ z < 256) ∧ Fl (heapOf w) a (zs.map (Value.int .u8 ·)) := by
  obtain ⟨fuel, hf⟩ := h
  rcases open_ints ht he hc hf with ⟨hcs, _⟩ | ⟨x, l, c, zs, hcs, _, hl, hm, hz, _, hcell, hwz⟩
  · simp [Value.cells] at hcs
    obtain ⟨rfl, rfl, rfl⟩ := hcs
    exact ⟨[], rfl, ⟨Nat.le_refl _, Nat.zero_le _, fun z hz => by cases hz⟩, Fl.nil _ _⟩
  · simp [Value.cells] at hcs
    obtain ⟨rfl, rfl, rfl⟩ := hcs
    have hz' : len ≤ zs.length := by rw [hz]; split <;> omega
    refine ⟨zs.take len, by rw [List.length_take]; omega, ⟨hl, by omega, fun z hzm => ?_⟩, fun j v hj => ?_⟩
    · have := hwz z (List.mem_of_mem_take hzm)
      have e1 : IntKind.u8.min = 0 := by decide
      have e2 : IntKind.u8.max = 255 := by decide
      simp [Lit.wf, e1, e2] at this
      omega
    · have hj' : j < len := by
        have := (List.getElem?_eq_some_iff.1 hj).1
        rw [List.length_map, List.length_take] at this
        omega
      have hjz : j < zs.length := by omega
      have := hcell j hjz
      simp only [List.map_take, List.getElem?_take, hj', if_true, List.getElem?_map, List.getElem?_eq_getElem hjz, Option.map_some, Option.some.injEq] at hj
      subst hj
      have e : zs.getD j 0 = zs[j] := by simp [List.getD, hjz]
      rw [e] at this
      exact heap_cell this
end
end Go.Proofs.YtodhkodhndbpmaaGreat
