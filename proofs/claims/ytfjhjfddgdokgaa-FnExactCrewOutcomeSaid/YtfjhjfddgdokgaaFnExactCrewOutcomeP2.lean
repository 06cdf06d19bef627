/- The statement FnExactCrewOutcome holds for all arguments; part 2 of the texts that show it. No further condition. -/
import Derived.Test.YtfjhjfddgdokgaaFnExactCrewOutcomeP1
namespace Go.Proofs.Ytfjhjfddgdokgaa
set_option linter.all false
open Go Go.RowKit
set_option maxRecDepth 100000
variable (w0 : World) (H : AHeap) (K : Value → AHeap → Prop)
def sumL (L : List (List Qd)) : Nat := (L.map List.length).sum
def sumP (ts : List (List Int × Int)) : Nat := (ts.map fun t => t.1.length).sum
theorem sumL_step {L : List (List Qd)} {k : Nat} (hk : k < L.length) : sumL (L.take (k + 1)) = sumL (L.take k) + L[k].length := by
  rw [List.take_add_one, List.getElem?_eq_getElem hk]
  simp only [sumL, Option.toList_some, List.map_append, List.map_cons, List.map_nil, List.sum_append, List.sum_cons, List.sum_nil, Nat.add_zero]
theorem sumL_le (L : List (List Qd)) (k : Nat) : sumL (L.take k) ≤ sumL L := by
  have : sumL L = sumL (L.take k) + sumL (L.drop k) := by
    simp only [sumL]
    rw [← List.sum_append, ← List.map_append, List.take_append_drop]
  omega
theorem sumP_step {ts : List (List Int × Int)} {k : Nat} (hk : k < ts.length) : sumP (ts.take (k + 1)) = sumP (ts.take k) + ts[k].1.length := by
  rw [List.take_add_one, List.getElem?_eq_getElem hk]
  simp only [sumP, Option.toList_some, List.map_append, List.map_cons, List.map_nil, List.sum_append, List.sum_cons, List.sum_nil, Nat.add_zero]
theorem sumP_le (ts : List (List Int × Int)) (k : Nat) : sumP (ts.take k) ≤ sumP ts := by
  have : sumP ts = sumP (ts.take k) + sumP (ts.drop k) := by
    simp only [sumP]
    rw [← List.sum_append, ← List.map_append, List.take_append_drop]
  omega
theorem FP.rd0 {H : AHeap} {A : Option Addr} {ts : List (List Int × Int)} (h : FP H A 0 1 ts) {k : Nat} (hk : k < ts.length) : A.isSome = true ∧ ∃ A' c, H.rdn (adr A (k * 2)) 2 = some [.slice A' ts[k].1.length c, .int .i64 ts[k].2] ∧ Fl H A' (ints ts[k].1) := by
  obtain ⟨h1, A', c, h2, h3, h4⟩ := h k hk
  refine ⟨h1, A', c, rdn_of rfl fun j v hj => ?_, h4⟩
  rw [adr_adr]
  match j, hj with
  | 0, hj => simp at hj; rw [← hj]; exact h2
  | 1, hj => simp at hj; rw [← hj]; exact h3
theorem FP.rd1 {H : AHeap} {A : Option Addr} {ts : List (List Int × Int)} (h : FP H A 1 0 ts) {k : Nat} (hk : k < ts.length) : A.isSome = true ∧ ∃ A' c, H.rdn (adr A (k * 2)) 2 = some [.int .i64 ts[k].2, .slice A' ts[k].1.length c] ∧ Fl H A' (ints ts[k].1) := by
  obtain ⟨h1, A', c, h2, h3, h4⟩ := h k hk
  refine ⟨h1, A', c, rdn_of rfl fun j v hj => ?_, h4⟩
  rw [adr_adr]
  match j, hj with
  | 0, hj => simp at hj; rw [← hj]; exact h3
  | 1, hj => simp at hj; rw [← hj]; exact h2
theorem szBox_ok (A : Option Addr) (n c : Nat) (p l : Int) (h1 : n ≤ maxLen) (h2 : 0 ≤ l) (h3 : l ≤ 4611686018427387904) (h : K (.int .i64 (if l < n then -1 else l - n)) H) :
    ACalls Try.prog w0 140 [.agg #[.int .i64 p, .slice A n c], .int .i64 l] H K := by
  by_cases hl : l < n
  · have d1 : decide ((-1 : Int) < 0) = true := by decide
    rw [if_pos hl] at h
    have hs : ∀ (C : AHeap) (D : Value → AHeap → Prop), D (.int .i64 (-1)) C → ACalls Try.prog w0 75 [.slice A n c, .int .i64 l] C D := fun C D hD => szIntS_ok _ _ _ A n c l h1 h2 h3 (by rw [if_pos hl]; exact hD)
    refine acalls_of_sx mix Try.func140 of140 (by simp [ir140]) ?_; rw [ir140]; (try delta qT qI qC qO qM qG)
    repeat' (first | simp -implicitDefEqProofs only [zG1,zG2,zG3,zG4,zG5,zG6,zG7,eq_self,resV,rval,X.val,binv,fillL,setR,↓reduceIte,Nat.reduceEqDiff,Nat.reduceAdd,Nat.reduceMul,Nat.reduceLeDiff,Nat.reduceLT,Nat.reduceSub,reduceCtorEq,zGq, d1] | ((with_reducible refine rows_intro (fun _ hb => ?_)); try simp only [set_none, ne_eq] at hb) | ((with_reducible refine new_intro (fun _ hb => ?_)); try simp only [set_none, ne_eq] at hb) | (with_reducible refine draw_same ?_) | ((with_reducible refine gd_split ?_ (fun _ => ?_) (fun _ => ?_)); exact rfl) | ((with_reducible refine td_split ?_ (fun _ => ?_) (fun _ => ?_)); exact rfl) | (with_reducible refine c_split (fun _ => ?_) (fun _ => ?_)) | (with_reducible refine hs _ _ ?_))
    exact ⟨H, (AHeap.le.refl H).fresh ‹_› _, h⟩
  · have d1 : decide (l - (n : Int) < 0) = false := by simp; omega
    rw [if_neg hl] at h
    have hs : ∀ (C : AHeap) (D : Value → AHeap → Prop), D (.int .i64 (l - n)) C → ACalls Try.prog w0 75 [.slice A n c, .int .i64 l] C D := fun C D hD => szIntS_ok _ _ _ A n c l h1 h2 h3 (by rw [if_neg hl]; exact hD)
    refine acalls_of_sx mix Try.func140 of140 (by simp [ir140]) ?_; rw [ir140]; (try delta qT qI qC qO qM qG)
    repeat' (first | simp -implicitDefEqProofs only [zG1,zG2,zG3,zG4,zG5,zG6,zG7,eq_self,resV,rval,X.val,binv,fillL,setR,↓reduceIte,Nat.reduceEqDiff,Nat.reduceAdd,Nat.reduceMul,Nat.reduceLeDiff,Nat.reduceLT,Nat.reduceSub,reduceCtorEq,zGq, d1] | ((with_reducible refine rows_intro (fun _ hb => ?_)); try simp only [set_none, ne_eq] at hb) | ((with_reducible refine new_intro (fun _ hb => ?_)); try simp only [set_none, ne_eq] at hb) | (with_reducible refine draw_same ?_) | ((with_reducible refine gd_split ?_ (fun _ => ?_) (fun _ => ?_)); exact rfl) | ((with_reducible refine td_split ?_ (fun _ => ?_) (fun _ => ?_)); exact rfl) | (with_reducible refine c_split (fun _ => ?_) (fun _ => ?_)) | (with_reducible refine hs _ _ ?_))
    exact ⟨H, (AHeap.le.refl H).fresh ‹_› _, h⟩
theorem szQuadSS_ok (A : Option Addr) (c : Nat) (L : List (List Qd)) (hx : FR H A L) (hm : L.length ≤ maxLen) (hL : ∀ x ∈ L, x.length ≤ maxLen) (l : Int) (h2 : 0 ≤ l) (h3 : l ≤ 4611686018427387904) (h : K (.int .i64 (if l < L.length + sumL L then -1 else l - (L.length + sumL L))) H) :
    ACalls Try.prog w0 37 [.slice A L.length c, .int .i64 l] H K := by
  have e0 : (L.length : Int) ≤ 9223372036854775807 := by simp only [maxLen] at hm; omega
  have e1 : IntKind.i64.wrap (l - L.length) = l - L.length := wrap_i64 (by omega) (by omega)
  by_cases hl : l < L.length
  · have d1 : decide (l - (L.length : Int) < 0) = true := by simp; omega
    rw [if_pos (by omega)] at h
    refine acalls_of_sx mix Try.func37 of37 (by simp [ir37]) ?_; rw [ir37]; (try delta qT qI qC qO qM qG)
    repeat' (first | simp -implicitDefEqProofs only [zG1,zG2,zG3,zG4,zG5,zG6,zG7,eq_self,resV,rval,X.val,binv,fillL,setR,↓reduceIte,Nat.reduceEqDiff,Nat.reduceAdd,Nat.reduceMul,Nat.reduceLeDiff,Nat.reduceLT,Nat.reduceSub,reduceCtorEq,zGp, e1, d1] | ((with_reducible refine rows_intro (fun _ hb => ?_)); try simp only [set_none, ne_eq] at hb) | ((with_reducible refine new_intro (fun _ hb => ?_)); try simp only [set_none, ne_eq] at hb) | (with_reducible refine draw_same ?_) | ((with_reducible refine gd_split ?_ (fun _ => ?_) (fun _ => ?_)); exact rfl) | ((with_reducible refine td_split ?_ (fun _ => ?_) (fun _ => ?_)); exact rfl) | (with_reducible refine c_split (fun _ => ?_) (fun _ => ?_)))
    exact ret_same h
  · have d1 : decide (l - (L.length : Int) < 0) = false := by simp; omega
    refine acalls_of_sx mix Try.func37 of37 (by simp [ir37]) ?_; rw [ir37]; (try delta qT qI qC qO qM qG)
    repeat' (first | simp -implicitDefEqProofs only [zG1,zG2,zG3,zG4,zG5,zG6,zG7,eq_self,resV,rval,X.val,binv,fillL,setR,↓reduceIte,Nat.reduceEqDiff,Nat.reduceAdd,Nat.reduceMul,Nat.reduceLeDiff,Nat.reduceLT,Nat.reduceSub,reduceCtorEq,zGp, e1, d1] | ((with_reducible refine rows_intro (fun _ hb => ?_)); try simp only [set_none, ne_eq] at hb) | ((with_reducible refine new_intro (fun _ hb => ?_)); try simp only [set_none, ne_eq] at hb) | (with_reducible refine draw_same ?_) | ((with_reducible refine gd_split ?_ (fun _ => ?_) (fun _ => ?_)); exact rfl) | ((with_reducible refine td_split ?_ (fun _ => ?_) (fun _ => ?_)); exact rfl) | (with_reducible refine c_split (fun _ => ?_) (fun _ => ?_)))
    refine for_rule L.length (fun k fr C => C = H ∧ (0 : Int) ≤ l - L.length - sumL (L.take k) ∧ fr 0 = .slice A L.length c ∧ fr 1 = .int .i64 (l - L.length - sumL (L.take k)) ∧ fr 5 = .int .i64 k)
      ⟨rfl, by simp [sumL]; omega, (by first | rfl | (simp only [put_at, ↓reduceIte, Nat.reduceEqDiff]; first | done | rfl | assumption) | simp [put_at, *]), by simp [put_at, sumL], (by first | rfl | (simp only [put_at, ↓reduceIte, Nat.reduceEqDiff]; first | done | rfl | assumption) | simp [put_at, *])⟩ ?_ ?_
    · rintro k fr C hk ⟨rfl, hp, f0, f1, f5⟩ N hN
      have g0 := lt_dec hk
      have g1 := rng hk
      have g2 := up1 hk (by omega)
      obtain ⟨q1, A', c', q2, fl⟩ := hx k hk
      have hs := sumL_step hk
      have hle := sumL_le L (k + 1)
      have hm' := hL _ (List.getElem_mem hk)
      by_cases hb : l - L.length - sumL (L.take k) < L[k].length
      · have d2 : decide ((-1 : Int) < 0) = true := by decide
        rw [if_pos (by omega)] at h
        have hsz : ∀ (D : Value → AHeap → Prop), D (.int .i64 (-1)) C → ACalls Try.prog w0 51 [.slice A' L[k].length c', .int .i64 (l - L.length - sumL (L.take k))] C D := fun D hD => szQuadS_ok _ _ _ _ _ _ _ hm' hp (by omega) (by rw [if_pos hb]; exact hD)
        repeat' (first | simp -implicitDefEqProofs only [zG1,zG2,zG3,zG4,zG5,zG6,zG7,eq_self,resV,rval,X.val,binv,fillL,setR,↓reduceIte,Nat.reduceEqDiff,Nat.reduceAdd,Nat.reduceMul,Nat.reduceLeDiff,Nat.reduceLT,Nat.reduceSub,reduceCtorEq,zGp, f0, f1, f5, g0, g1, q1, q2, d2, Nat.mul_one] | ((with_reducible refine rows_intro (fun _ hb => ?_)); try simp only [set_none, ne_eq] at hb) | ((with_reducible refine new_intro (fun _ hb => ?_)); try simp only [set_none, ne_eq] at hb) | (with_reducible refine draw_same ?_) | ((with_reducible refine gd_split ?_ (fun _ => ?_) (fun _ => ?_)); exact rfl) | ((with_reducible refine td_split ?_ (fun _ => ?_) (fun _ => ?_)); exact rfl) | (with_reducible refine c_split (fun _ => ?_) (fun _ => ?_)) | (with_reducible refine hsz _ ?_))
        exact ret_same h
      · have d2 : decide (l - L.length - sumL (L.take k) - L[k].length < 0) = false := by simp; omega
        have hsz : ∀ (D : Value → AHeap → Prop), D (.int .i64 (l - L.length - sumL (L.take k) - L[k].length)) C → ACalls Try.prog w0 51 [.slice A' L[k].length c', .int .i64 (l - L.length - sumL (L.take k))] C D := fun D hD => szQuadS_ok _ _ _ _ _ _ _ hm' hp (by omega) (by rw [if_neg hb]; exact hD)
        have e3 : l - L.length - sumL (L.take k) - L[k].length = l - L.length - (sumL (L.take (k + 1)) : Int) := by rw [hs]; push_cast; omega
        rw [e3] at hsz d2
        repeat' (first | simp -implicitDefEqProofs only [zG1,zG2,zG3,zG4,zG5,zG6,zG7,eq_self,resV,rval,X.val,binv,fillL,setR,↓reduceIte,Nat.reduceEqDiff,Nat.reduceAdd,Nat.reduceMul,Nat.reduceLeDiff,Nat.reduceLT,Nat.reduceSub,reduceCtorEq,zGp, f0, f1, f5, g0, g1, g2, q1, q2, d2, Nat.mul_one] | ((with_reducible refine rows_intro (fun _ hb => ?_)); try simp only [set_none, ne_eq] at hb) | ((with_reducible refine new_intro (fun _ hb => ?_)); try simp only [set_none, ne_eq] at hb) | (with_reducible refine draw_same ?_) | ((with_reducible refine gd_split ?_ (fun _ => ?_) (fun _ => ?_)); exact rfl) | ((with_reducible refine td_split ?_ (fun _ => ?_) (fun _ => ?_)); exact rfl) | (with_reducible refine c_split (fun _ => ?_) (fun _ => ?_)) | (with_reducible refine hsz _ ?_))
        exact hN _ _ _ (.refl _) ⟨rfl, by omega, (by first | rfl | (simp only [put_at, ↓reduceIte, Nat.reduceEqDiff]; first | done | rfl | assumption) | simp [put_at, *]), (by first | rfl | (simp only [put_at, ↓reduceIte, Nat.reduceEqDiff]; first | done | rfl | assumption) | simp [put_at, *]), (by first | rfl | (simp only [put_at, ↓reduceIte, Nat.reduceEqDiff]; first | done | rfl | assumption) | simp [put_at, *])⟩
    · rintro fr C ⟨rfl, hp, f0, f1, f5⟩ N
      have g0 : decide ((L.length : Int) < (L.length : Int)) = false := by simp
      rw [List.take_length] at hp f1
      rw [if_neg (by omega)] at h
      repeat' (first | simp -implicitDefEqProofs only [zG1,zG2,zG3,zG4,zG5,zG6,zG7,eq_self,resV,rval,X.val,binv,fillL,setR,↓reduceIte,Nat.reduceEqDiff,Nat.reduceAdd,Nat.reduceMul,Nat.reduceLeDiff,Nat.reduceLT,Nat.reduceSub,reduceCtorEq,zGp, f0, f1, f5, g0] | ((with_reducible refine rows_intro (fun _ hb => ?_)); try simp only [set_none, ne_eq] at hb) | ((with_reducible refine new_intro (fun _ hb => ?_)); try simp only [set_none, ne_eq] at hb) | (with_reducible refine draw_same ?_) | ((with_reducible refine gd_split ?_ (fun _ => ?_) (fun _ => ?_)); exact rfl) | ((with_reducible refine td_split ?_ (fun _ => ?_) (fun _ => ?_)); exact rfl) | (with_reducible refine c_split (fun _ => ?_) (fun _ => ?_)))
      exact ret_same (ki h (by omega))
theorem szThreadS_ok (A : Option Addr) (c : Nat) (L : List (List Int × Int)) (hx : FP H A 0 1 L) (hm : L.length ≤ maxLen) (hL : ∀ x ∈ L, x.1.length ≤ maxLen) (l : Int) (h2 : 0 ≤ l) (h3 : l ≤ 4611686018427387904) (h : K (.int .i64 (if l < L.length + sumP L then -1 else l - (L.length + sumP L))) H) :
    ACalls Try.prog w0 82 [.slice A L.length c, .int .i64 l] H K := by
  have e0 : (L.length : Int) ≤ 9223372036854775807 := by simp only [maxLen] at hm; omega
  have e1 : IntKind.i64.wrap (l - L.length) = l - L.length := wrap_i64 (by omega) (by omega)
  by_cases hl : l < L.length
  · have d1 : decide (l - (L.length : Int) < 0) = true := by simp; omega
    rw [if_pos (by omega)] at h
    refine acalls_of_sx mix Try.func82 of82 (by simp [ir82]) ?_; rw [ir82]; (try delta qT qI qC qO qM qG)
    repeat' (first | simp -implicitDefEqProofs only [zG1,zG2,zG3,zG4,zG5,zG6,zG7,eq_self,resV,rval,X.val,binv,fillL,setR,↓reduceIte,Nat.reduceEqDiff,Nat.reduceAdd,Nat.reduceMul,Nat.reduceLeDiff,Nat.reduceLT,Nat.reduceSub,reduceCtorEq,zGp, e1, d1] | ((with_reducible refine rows_intro (fun _ hb => ?_)); try simp only [set_none, ne_eq] at hb) | ((with_reducible refine new_intro (fun _ hb => ?_)); try simp only [set_none, ne_eq] at hb) | (with_reducible refine draw_same ?_) | ((with_reducible refine gd_split ?_ (fun _ => ?_) (fun _ => ?_)); exact rfl) | ((with_reducible refine td_split ?_ (fun _ => ?_) (fun _ => ?_)); exact rfl) | (with_reducible refine c_split (fun _ => ?_) (fun _ => ?_)))
    exact ret_same h
  · have d1 : decide (l - (L.length : Int) < 0) = false := by simp; omega
    refine acalls_of_sx mix Try.func82 of82 (by simp [ir82]) ?_; rw [ir82]; (try delta qT qI qC qO qM qG)
    repeat' (first | simp -implicitDefEqProofs only [zG1,zG2,zG3,zG4,zG5,zG6,zG7,eq_self,resV,rval,X.val,binv,fillL,setR,↓reduceIte,Nat.reduceEqDiff,Nat.reduceAdd,Nat.reduceMul,Nat.reduceLeDiff,Nat.reduceLT,Nat.reduceSub,reduceCtorEq,zGp, e1, d1] | ((with_reducible refine rows_intro (fun _ hb => ?_)); try simp only [set_none, ne_eq] at hb) | ((with_reducible refine new_intro (fun _ hb => ?_)); try simp only [set_none, ne_eq] at hb) | (with_reducible refine draw_same ?_) | ((with_reducible refine gd_split ?_ (fun _ => ?_) (fun _ => ?_)); exact rfl) | ((with_reducible refine td_split ?_ (fun _ => ?_) (fun _ => ?_)); exact rfl) | (with_reducible refine c_split (fun _ => ?_) (fun _ => ?_)))
    refine for_rule L.length (fun k fr C => C = H ∧ (0 : Int) ≤ l - L.length - sumP (L.take k) ∧ fr 0 = .slice A L.length c ∧ fr 1 = .int .i64 (l - L.length - sumP (L.take k)) ∧ fr 5 = .int .i64 k)
      ⟨rfl, by simp [sumP]; omega, (by first | rfl | (simp only [put_at, ↓reduceIte, Nat.reduceEqDiff]; first | done | rfl | assumption) | simp [put_at, *]), by simp [put_at, sumP], (by first | rfl | (simp only [put_at, ↓reduceIte, Nat.reduceEqDiff]; first | done | rfl | assumption) | simp [put_at, *])⟩ ?_ ?_
    · rintro k fr C hk ⟨rfl, hp, f0, f1, f5⟩ N hN
      have g0 := lt_dec hk
      have g1 := rng hk
      have g2 := up1 hk (by omega)
      obtain ⟨q1, A', c', q2, fl⟩ := hx.rd0 hk
      have hs := sumP_step hk
      have hle := sumP_le L (k + 1)
      have hm' := hL _ (List.getElem_mem hk)
      by_cases hb : l - L.length - sumP (L.take k) < L[k].1.length
      · have d2 : decide ((-1 : Int) < 0) = true := by decide
        rw [if_pos (by omega)] at h
        have hsz : ∀ (D : Value → AHeap → Prop), D (.int .i64 (-1)) C → ACalls Try.prog w0 139 [.agg #[.slice A' L[k].1.length c', .int .i64 L[k].2], .int .i64 (l - L.length - sumP (L.take k))] C D := fun D hD => szThread_ok _ _ _ _ _ _ _ _ hm' hp (by omega) (by rw [if_pos hb]; exact hD)
        repeat' (first | simp -implicitDefEqProofs only [zG1,zG2,zG3,zG4,zG5,zG6,zG7,eq_self,resV,rval,X.val,binv,fillL,setR,↓reduceIte,Nat.reduceEqDiff,Nat.reduceAdd,Nat.reduceMul,Nat.reduceLeDiff,Nat.reduceLT,Nat.reduceSub,reduceCtorEq,zGp, f0, f1, f5, g0, g1, q1, q2, d2, Nat.mul_one] | ((with_reducible refine rows_intro (fun _ hb => ?_)); try simp only [set_none, ne_eq] at hb) | ((with_reducible refine new_intro (fun _ hb => ?_)); try simp only [set_none, ne_eq] at hb) | (with_reducible refine draw_same ?_) | ((with_reducible refine gd_split ?_ (fun _ => ?_) (fun _ => ?_)); exact rfl) | ((with_reducible refine td_split ?_ (fun _ => ?_) (fun _ => ?_)); exact rfl) | (with_reducible refine c_split (fun _ => ?_) (fun _ => ?_)) | (with_reducible refine hsz _ ?_))
        exact ret_same h
      · have d2 : decide (l - L.length - sumP (L.take k) - L[k].1.length < 0) = false := by simp; omega
        have hsz : ∀ (D : Value → AHeap → Prop), D (.int .i64 (l - L.length - sumP (L.take k) - L[k].1.length)) C → ACalls Try.prog w0 139 [.agg #[.slice A' L[k].1.length c', .int .i64 L[k].2], .int .i64 (l - L.length - sumP (L.take k))] C D := fun D hD => szThread_ok _ _ _ _ _ _ _ _ hm' hp (by omega) (by rw [if_neg hb]; exact hD)
        have e3 : l - L.length - sumP (L.take k) - L[k].1.length = l - L.length - (sumP (L.take (k + 1)) : Int) := by rw [hs]; push_cast; omega
        rw [e3] at hsz d2
        repeat' (first | simp -implicitDefEqProofs only [zG1,zG2,zG3,zG4,zG5,zG6,zG7,eq_self,resV,rval,X.val,binv,fillL,setR,↓reduceIte,Nat.reduceEqDiff,Nat.reduceAdd,Nat.reduceMul,Nat.reduceLeDiff,Nat.reduceLT,Nat.reduceSub,reduceCtorEq,zGp, f0, f1, f5, g0, g1, g2, q1, q2, d2, Nat.mul_one] | ((with_reducible refine rows_intro (fun _ hb => ?_)); try simp only [set_none, ne_eq] at hb) | ((with_reducible refine new_intro (fun _ hb => ?_)); try simp only [set_none, ne_eq] at hb) | (with_reducible refine draw_same ?_) | ((with_reducible refine gd_split ?_ (fun _ => ?_) (fun _ => ?_)); exact rfl) | ((with_reducible refine td_split ?_ (fun _ => ?_) (fun _ => ?_)); exact rfl) | (with_reducible refine c_split (fun _ => ?_) (fun _ => ?_)) | (with_reducible refine hsz _ ?_))
        exact hN _ _ _ (.refl _) ⟨rfl, by omega, (by first | rfl | (simp only [put_at, ↓reduceIte, Nat.reduceEqDiff]; first | done | rfl | assumption) | simp [put_at, *]), (by first | rfl | (simp only [put_at, ↓reduceIte, Nat.reduceEqDiff]; first | done | rfl | assumption) | simp [put_at, *]), (by first | rfl | (simp only [put_at, ↓reduceIte, Nat.reduceEqDiff]; first | done | rfl | assumption) | simp [put_at, *])⟩
    · rintro fr C ⟨rfl, hp, f0, f1, f5⟩ N
      have g0 : decide ((L.length : Int) < (L.length : Int)) = false := by simp
      rw [List.take_length] at hp f1
      rw [if_neg (by omega)] at h
      repeat' (first | simp -implicitDefEqProofs only [zG1,zG2,zG3,zG4,zG5,zG6,zG7,eq_self,resV,rval,X.val,binv,fillL,setR,↓reduceIte,Nat.reduceEqDiff,Nat.reduceAdd,Nat.reduceMul,Nat.reduceLeDiff,Nat.reduceLT,Nat.reduceSub,reduceCtorEq,zGp, f0, f1, f5, g0] | ((with_reducible refine rows_intro (fun _ hb => ?_)); try simp only [set_none, ne_eq] at hb) | ((with_reducible refine new_intro (fun _ hb => ?_)); try simp only [set_none, ne_eq] at hb) | (with_reducible refine draw_same ?_) | ((with_reducible refine gd_split ?_ (fun _ => ?_) (fun _ => ?_)); exact rfl) | ((with_reducible refine td_split ?_ (fun _ => ?_) (fun _ => ?_)); exact rfl) | (with_reducible refine c_split (fun _ => ?_) (fun _ => ?_)))
      exact ret_same (ki h (by omega))
theorem szBoxS_ok (A : Option Addr) (c : Nat) (L : List (List Int × Int)) (hx : FP H A 1 0 L) (hm : L.length ≤ maxLen) (hL : ∀ x ∈ L, x.1.length ≤ maxLen) (l : Int) (h2 : 0 ≤ l) (h3 : l ≤ 4611686018427387904) (h : K (.int .i64 (if l < L.length + sumP L then -1 else l - (L.length + sumP L))) H) :
    ACalls Try.prog w0 83 [.slice A L.length c, .int .i64 l] H K := by
  have e0 : (L.length : Int) ≤ 9223372036854775807 := by simp only [maxLen] at hm; omega
  have e1 : IntKind.i64.wrap (l - L.length) = l - L.length := wrap_i64 (by omega) (by omega)
  by_cases hl : l < L.length
  · have d1 : decide (l - (L.length : Int) < 0) = true := by simp; omega
    rw [if_pos (by omega)] at h
    refine acalls_of_sx mix Try.func83 of83 (by simp [ir83]) ?_; rw [ir83]; (try delta qT qI qC qO qM qG)
    repeat' (first | simp -implicitDefEqProofs only [zG1,zG2,zG3,zG4,zG5,zG6,zG7,eq_self,resV,rval,X.val,binv,fillL,setR,↓reduceIte,Nat.reduceEqDiff,Nat.reduceAdd,Nat.reduceMul,Nat.reduceLeDiff,Nat.reduceLT,Nat.reduceSub,reduceCtorEq,zGp, e1, d1] | ((with_reducible refine rows_intro (fun _ hb => ?_)); try simp only [set_none, ne_eq] at hb) | ((with_reducible refine new_intro (fun _ hb => ?_)); try simp only [set_none, ne_eq] at hb) | (with_reducible refine draw_same ?_) | ((with_reducible refine gd_split ?_ (fun _ => ?_) (fun _ => ?_)); exact rfl) | ((with_reducible refine td_split ?_ (fun _ => ?_) (fun _ => ?_)); exact rfl) | (with_reducible refine c_split (fun _ => ?_) (fun _ => ?_)))
    exact ret_same h
  · have d1 : decide (l - (L.length : Int) < 0) = false := by simp; omega
    refine acalls_of_sx mix Try.func83 of83 (by simp [ir83]) ?_; rw [ir83]; (try delta qT qI qC qO qM qG)
    repeat' (first | simp -implicitDefEqProofs only [zG1,zG2,zG3,zG4,zG5,zG6,zG7,eq_self,resV,rval,X.val,binv,fillL,setR,↓reduceIte,Nat.reduceEqDiff,Nat.reduceAdd,Nat.reduceMul,Nat.reduceLeDiff,Nat.reduceLT,Nat.reduceSub,reduceCtorEq,zGp, e1, d1] | ((with_reducible refine rows_intro (fun _ hb => ?_)); try simp only [set_none, ne_eq] at hb) | ((with_reducible refine new_intro (fun _ hb => ?_)); try simp only [set_none, ne_eq] at hb) | (with_reducible refine draw_same ?_) | ((with_reducible refine gd_split ?_ (fun _ => ?_) (fun _ => ?_)); exact rfl) | ((with_reducible refine td_split ?_ (fun _ => ?_) (fun _ => ?_)); exact rfl) | (with_reducible refine c_split (fun _ => ?_) (fun _ => ?_)))
    refine for_rule L.length (fun k fr C => C = H ∧ (0 : Int) ≤ l - L.length - sumP (L.take k) ∧ fr 0 = .slice A L.length c ∧ fr 1 = .int .i64 (l - L.length - sumP (L.take k)) ∧ fr 5 = .int .i64 k)
      ⟨rfl, by simp [sumP]; omega, (by first | rfl | (simp only [put_at, ↓reduceIte, Nat.reduceEqDiff]; first | done | rfl | assumption) | simp [put_at, *]), by simp [put_at, sumP], (by first | rfl | (simp only [put_at, ↓reduceIte, Nat.reduceEqDiff]; first | done | rfl | assumption) | simp [put_at, *])⟩ ?_ ?_
    · rintro k fr C hk ⟨rfl, hp, f0, f1, f5⟩ N hN
      have g0 := lt_dec hk
      have g1 := rng hk
      have g2 := up1 hk (by omega)
      obtain ⟨q1, A', c', q2, fl⟩ := hx.rd1 hk
      have hs := sumP_step hk
      have hle := sumP_le L (k + 1)
      have hm' := hL _ (List.getElem_mem hk)
      by_cases hb : l - L.length - sumP (L.take k) < L[k].1.length
      · have d2 : decide ((-1 : Int) < 0) = true := by decide
        rw [if_pos (by omega)] at h
        have hsz : ∀ (D : Value → AHeap → Prop), D (.int .i64 (-1)) C → ACalls Try.prog w0 140 [.agg #[.int .i64 L[k].2, .slice A' L[k].1.length c'], .int .i64 (l - L.length - sumP (L.take k))] C D := fun D hD => szBox_ok _ _ _ _ _ _ _ _ hm' hp (by omega) (by rw [if_pos hb]; exact hD)
        repeat' (first | simp -implicitDefEqProofs only [zG1,zG2,zG3,zG4,zG5,zG6,zG7,eq_self,resV,rval,X.val,binv,fillL,setR,↓reduceIte,Nat.reduceEqDiff,Nat.reduceAdd,Nat.reduceMul,Nat.reduceLeDiff,Nat.reduceLT,Nat.reduceSub,reduceCtorEq,zGp, f0, f1, f5, g0, g1, q1, q2, d2, Nat.mul_one] | ((with_reducible refine rows_intro (fun _ hb => ?_)); try simp only [set_none, ne_eq] at hb) | ((with_reducible refine new_intro (fun _ hb => ?_)); try simp only [set_none, ne_eq] at hb) | (with_reducible refine draw_same ?_) | ((with_reducible refine gd_split ?_ (fun _ => ?_) (fun _ => ?_)); exact rfl) | ((with_reducible refine td_split ?_ (fun _ => ?_) (fun _ => ?_)); exact rfl) | (with_reducible refine c_split (fun _ => ?_) (fun _ => ?_)) | (with_reducible refine hsz _ ?_))
        exact ret_same h
      · have d2 : decide (l - L.length - sumP (L.take k) - L[k].1.length < 0) = false := by simp; omega
        have hsz : ∀ (D : Value → AHeap → Prop), D (.int .i64 (l - L.length - sumP (L.take k) - L[k].1.length)) C → ACalls Try.prog w0 140 [.agg #[.int .i64 L[k].2, .slice A' L[k].1.length c'], .int .i64 (l - L.length - sumP (L.take k))] C D := fun D hD => szBox_ok _ _ _ _ _ _ _ _ hm' hp (by omega) (by rw [if_neg hb]; exact hD)
        have e3 : l - L.length - sumP (L.take k) - L[k].1.length = l - L.length - (sumP (L.take (k + 1)) : Int) := by rw [hs]; push_cast; omega
        rw [e3] at hsz d2
        repeat' (first | simp -implicitDefEqProofs only [zG1,zG2,zG3,zG4,zG5,zG6,zG7,eq_self,resV,rval,X.val,binv,fillL,setR,↓reduceIte,Nat.reduceEqDiff,Nat.reduceAdd,Nat.reduceMul,Nat.reduceLeDiff,Nat.reduceLT,Nat.reduceSub,reduceCtorEq,zGp, f0, f1, f5, g0, g1, g2, q1, q2, d2, Nat.mul_one] | ((with_reducible refine rows_intro (fun _ hb => ?_)); try simp only [set_none, ne_eq] at hb) | ((with_reducible refine new_intro (fun _ hb => ?_)); try simp only [set_none, ne_eq] at hb) | (with_reducible refine draw_same ?_) | ((with_reducible refine gd_split ?_ (fun _ => ?_) (fun _ => ?_)); exact rfl) | ((with_reducible refine td_split ?_ (fun _ => ?_) (fun _ => ?_)); exact rfl) | (with_reducible refine c_split (fun _ => ?_) (fun _ => ?_)) | (with_reducible refine hsz _ ?_))
        exact hN _ _ _ (.refl _) ⟨rfl, by omega, (by first | rfl | (simp only [put_at, ↓reduceIte, Nat.reduceEqDiff]; first | done | rfl | assumption) | simp [put_at, *]), (by first | rfl | (simp only [put_at, ↓reduceIte, Nat.reduceEqDiff]; first | done | rfl | assumption) | simp [put_at, *]), (by first | rfl | (simp only [put_at, ↓reduceIte, Nat.reduceEqDiff]; first | done | rfl | assumption) | simp [put_at, *])⟩
    · rintro fr C ⟨rfl, hp, f0, f1, f5⟩ N
      have g0 : decide ((L.length : Int) < (L.length : Int)) = false := by simp
      rw [List.take_length] at hp f1
      rw [if_neg (by omega)] at h
      repeat' (first | simp -implicitDefEqProofs only [zG1,zG2,zG3,zG4,zG5,zG6,zG7,eq_self,resV,rval,X.val,binv,fillL,setR,↓reduceIte,Nat.reduceEqDiff,Nat.reduceAdd,Nat.reduceMul,Nat.reduceLeDiff,Nat.reduceLT,Nat.reduceSub,reduceCtorEq,zGp, f0, f1, f5, g0] | ((with_reducible refine rows_intro (fun _ hb => ?_)); try simp only [set_none, ne_eq] at hb) | ((with_reducible refine new_intro (fun _ hb => ?_)); try simp only [set_none, ne_eq] at hb) | (with_reducible refine draw_same ?_) | ((with_reducible refine gd_split ?_ (fun _ => ?_) (fun _ => ?_)); exact rfl) | ((with_reducible refine td_split ?_ (fun _ => ?_) (fun _ => ?_)); exact rfl) | (with_reducible refine c_split (fun _ => ?_) (fun _ => ?_)))
      exact ret_same (ki h (by omega))
end Go.Proofs.Ytfjhjfddgdokgaa
namespace Go.Proofs.Ytfjhjfddgdokgaa
set_option linter.all false
open Go Go.RowKit
set_option maxRecDepth 100000
variable (w0 : World) (H : AHeap) (K : Value → AHeap → Prop)
theorem toQuadSS_ok (A : Option Addr) (c : Nat) (L : List (List Qd)) (hx : FR H A L) (hn : L.length ≤ 1048576) (hL : ∀ x ∈ L, x.length ≤ 1048576) (h : ∀ v C bs, AHeap.le H C → New H bs → Rs C 29 111 5 v (L.map qcells) bs → K v C) :
    ACalls Try.prog w0 40 [.slice A L.length c] H K := by
  refine acalls_of_sx mix Try.func40 of40 (by simp [ir40]) ?_; rw [ir40]; (try delta qT qI qC qO qM qG)
  repeat' (first | simp -implicitDefEqProofs only [zG1,zG2,zG3,zG4,zG5,zG6,zG7,eq_self,resV,rval,X.val,binv,fillL,setR,↓reduceIte,Nat.reduceEqDiff,Nat.reduceAdd,Nat.reduceMul,Nat.reduceLeDiff,Nat.reduceLT,Nat.reduceSub,reduceCtorEq,zGp] | ((with_reducible refine rows_intro (fun _ hb => ?_)); try simp only [set_none, ne_eq] at hb) | ((with_reducible refine new_intro (fun _ hb => ?_)); try simp only [set_none, ne_eq] at hb) | (with_reducible refine draw_same ?_) | ((with_reducible refine gd_split ?_ (fun _ => ?_) (fun _ => ?_)); exact rfl) | ((with_reducible refine td_split ?_ (fun _ => ?_) (fun _ => ?_)); exact rfl) | (with_reducible refine c_split (fun _ => ?_) (fun _ => ?_)))
  refine mk_intro (n := L.length) (by omega) (by omega) (fun b hb => ?_)
  repeat' (first | simp -implicitDefEqProofs only [zG1,zG2,zG3,zG4,zG5,zG6,zG7,eq_self,resV,rval,X.val,binv,fillL,setR,↓reduceIte,Nat.reduceEqDiff,Nat.reduceAdd,Nat.reduceMul,Nat.reduceLeDiff,Nat.reduceLT,Nat.reduceSub,reduceCtorEq,zGp] | ((with_reducible refine rows_intro (fun _ hb => ?_)); try simp only [set_none, ne_eq] at hb) | ((with_reducible refine new_intro (fun _ hb => ?_)); try simp only [set_none, ne_eq] at hb) | (with_reducible refine draw_same ?_) | ((with_reducible refine gd_split ?_ (fun _ => ?_) (fun _ => ?_)); exact rfl) | ((with_reducible refine td_split ?_ (fun _ => ?_) (fun _ => ?_)); exact rfl) | (with_reducible refine c_split (fun _ => ?_) (fun _ => ?_)))
  refine for_rule L.length (fun k fr C => ∃ bs, AHeap.le H C ∧ New H bs ∧ Rs C 29 111 5 (.slice (some ⟨b, 0, none⟩) L.length L.length) ((L.take k).map qcells ++ List.replicate (L.length - k) []) bs ∧ fr 0 = .slice A L.length c ∧ fr 3 = .slice (some ⟨b, 0, none⟩) L.length L.length ∧ fr 4 = .int .i64 k)
    ⟨[b], (AHeap.le.refl H).fresh hb _, New.one hb, by rw [List.take_zero, List.map_nil, List.nil_append, Nat.sub_zero]; exact Rs.nils (Kn.same _ _ _) (by simp only [maxLen]; omega), (by first | rfl | (simp only [put_at, ↓reduceIte, Nat.reduceEqDiff]; first | done | rfl | assumption) | simp [put_at, *]), (by first | rfl | (simp only [put_at, ↓reduceIte, Nat.reduceEqDiff]; first | done | rfl | assumption) | simp [put_at, *]), (by first | rfl | (simp only [put_at, ↓reduceIte, Nat.reduceEqDiff]; first | done | rfl | assumption) | simp [put_at, *])⟩ ?_ ?_
  · rintro k fr C hk ⟨bs0, hle, hn0, hR0, f0, f3, f4⟩ N hN
    obtain ⟨bs, hs, hne, hR⟩ := hR0.tight
    have hnb : New H bs := fun y hy => hn0 y (hs y hy)
    have g0 := lt_dec hk
    have g1 := rng hk
    have g2 := up1 hk (by omega)
    obtain ⟨q1, A', c', q2, fl⟩ := (hx.le hle) k hk
    have ll : ((L.take k).map qcells ++ List.replicate (L.length - k) []).length = L.length := by simp; omega
    have es : ((L.take k).map qcells ++ List.replicate (L.length - k) []).set k (qcells L[k]) = (L.take (k + 1)).map qcells ++ List.replicate (L.length - (k + 1)) [] := by
      obtain ⟨m, hm⟩ : ∃ m, L.length - k = m + 1 := ⟨L.length - k - 1, by omega⟩
      have el : ((L.take k).map qcells).length = k := by simp; omega
      rw [List.set_append_right _ _ (by omega), el, Nat.sub_self, hm, List.replicate_succ, List.set_cons_zero, List.take_add_one, List.getElem?_eq_getElem hk, show L.length - (k + 1) = m by omega, Option.toList_some, List.map_append, List.append_assoc]
      rfl
    repeat' (first | simp -implicitDefEqProofs only [zG1,zG2,zG3,zG4,zG5,zG6,zG7,eq_self,resV,rval,X.val,binv,fillL,setR,↓reduceIte,Nat.reduceEqDiff,Nat.reduceAdd,Nat.reduceMul,Nat.reduceLeDiff,Nat.reduceLT,Nat.reduceSub,reduceCtorEq,zGp, f0, f3, f4, g0, g1, g2, q1, q2, adr_lit, Nat.zero_add, Nat.mul_one] | ((with_reducible refine rows_intro (fun _ hb => ?_)); try simp only [set_none, ne_eq] at hb) | ((with_reducible refine new_intro (fun _ hb => ?_)); try simp only [set_none, ne_eq] at hb) | (with_reducible refine draw_same ?_) | ((with_reducible refine gd_split ?_ (fun _ => ?_) (fun _ => ?_)); exact rfl) | ((with_reducible refine td_split ?_ (fun _ => ?_) (fun _ => ?_)); exact rfl) | (with_reducible refine c_split (fun _ => ?_) (fun _ => ?_)))
    refine toQuadS_ok _ _ _ A' c' L[k] fl (by have := hL _ (List.getElem_mem hk); omega) (rw_of fun v5 C5 bs5 l5 n5 w5 => ?_)
    repeat' (first | simp -implicitDefEqProofs only [zG1,zG2,zG3,zG4,zG5,zG6,zG7,eq_self,resV,rval,X.val,binv,fillL,setR,↓reduceIte,Nat.reduceEqDiff,Nat.reduceAdd,Nat.reduceMul,Nat.reduceLeDiff,Nat.reduceLT,Nat.reduceSub,reduceCtorEq,zGp, f0, f3, f4, g1, adr_lit, Nat.zero_add, Nat.mul_one] | ((with_reducible refine rows_intro (fun _ hb => ?_)); try simp only [set_none, ne_eq] at hb) | ((with_reducible refine new_intro (fun _ hb => ?_)); try simp only [set_none, ne_eq] at hb) | (with_reducible refine draw_same ?_) | ((with_reducible refine gd_split ?_ (fun _ => ?_) (fun _ => ?_)); exact rfl) | ((with_reducible refine td_split ?_ (fun _ => ?_) (fun _ => ?_)); exact rfl) | (with_reducible refine c_split (fun _ => ?_) (fun _ => ?_)))
    have hR5 := hR.trans l5
    have hR5' : Rs C5 29 111 5 (.slice (some ⟨b, 0, none⟩) L.length L.length) ((L.take k).map qcells ++ List.replicate (L.length - k) []) bs := hR5
    refine hR5'.st (i := k) (by rw [ll]; exact hk) w5 (fun y hy hm => hne y hm (n5 y hy)) (fun C6 hc6 hR6 => ?_)
    rw [es] at hR6
    repeat' (first | simp -implicitDefEqProofs only [zG1,zG2,zG3,zG4,zG5,zG6,zG7,eq_self,resV,rval,X.val,binv,fillL,setR,↓reduceIte,Nat.reduceEqDiff,Nat.reduceAdd,Nat.reduceMul,Nat.reduceLeDiff,Nat.reduceLT,Nat.reduceSub,reduceCtorEq,zGp, f0, f3, f4, g2] | ((with_reducible refine rows_intro (fun _ hb => ?_)); try simp only [set_none, ne_eq] at hb) | ((with_reducible refine new_intro (fun _ hb => ?_)); try simp only [set_none, ne_eq] at hb) | (with_reducible refine draw_same ?_) | ((with_reducible refine gd_split ?_ (fun _ => ?_) (fun _ => ?_)); exact rfl) | ((with_reducible refine td_split ?_ (fun _ => ?_) (fun _ => ?_)); exact rfl) | (with_reducible refine c_split (fun _ => ?_) (fun _ => ?_)))
    exact hN _ _ _ (.refl _) ⟨bs ++ bs5, hc6.keep (hle.trans l5) hnb, hnb.app (n5.le hle), hR6, (by first | rfl | (simp only [put_at, ↓reduceIte, Nat.reduceEqDiff]; first | done | rfl | assumption) | simp [put_at, *]), (by first | rfl | (simp only [put_at, ↓reduceIte, Nat.reduceEqDiff]; first | done | rfl | assumption) | simp [put_at, *]), (by first | rfl | (simp only [put_at, ↓reduceIte, Nat.reduceEqDiff]; first | done | rfl | assumption) | simp [put_at, *])⟩
  · rintro fr C ⟨bs, hle, hnb, hR, f0, f3, f4⟩ N
    have g0 : decide ((L.length : Int) < (L.length : Int)) = false := by simp
    rw [List.take_of_length_le (Nat.le_refl _), Nat.sub_self, List.replicate_zero, List.append_nil] at hR
    repeat' (first | simp -implicitDefEqProofs only [zG1,zG2,zG3,zG4,zG5,zG6,zG7,eq_self,resV,rval,X.val,binv,fillL,setR,↓reduceIte,Nat.reduceEqDiff,Nat.reduceAdd,Nat.reduceMul,Nat.reduceLeDiff,Nat.reduceLT,Nat.reduceSub,reduceCtorEq,zGp, f0, f3, f4, g0] | ((with_reducible refine rows_intro (fun _ hb => ?_)); try simp only [set_none, ne_eq] at hb) | ((with_reducible refine new_intro (fun _ hb => ?_)); try simp only [set_none, ne_eq] at hb) | (with_reducible refine draw_same ?_) | ((with_reducible refine gd_split ?_ (fun _ => ?_) (fun _ => ?_)); exact rfl) | ((with_reducible refine td_split ?_ (fun _ => ?_) (fun _ => ?_)); exact rfl) | (with_reducible refine c_split (fun _ => ?_) (fun _ => ?_)))
    exact ret_same (h _ _ _ hle hnb hR)
theorem toBox_ok (A : Option Addr) (c : Nat) (xs : List Int) (p : Int) (hx : Fl H A (ints xs)) (hn : xs.length ≤ 1048576) (h : ∀ v C bs, AHeap.le H C → New H bs → Rw C 3 1 v xs.length (ints xs) bs → K (.agg #[.int .i64 p, v]) C) :
    ACalls Try.prog w0 146 [.agg #[.int .i64 p, .slice A xs.length c]] H K := by
  refine acalls_of_sx mix Try.func146 of146 (by simp [ir146]) ?_; rw [ir146]; (try delta qT qI qC qO qM qG)
  repeat' (first | simp -implicitDefEqProofs only [zG1,zG2,zG3,zG4,zG5,zG6,zG7,eq_self,resV,rval,X.val,binv,fillL,setR,↓reduceIte,Nat.reduceEqDiff,Nat.reduceAdd,Nat.reduceMul,Nat.reduceLeDiff,Nat.reduceLT,Nat.reduceSub,reduceCtorEq,zGp] | ((with_reducible refine new_intro (fun _ hb => ?_)); try simp only [set_none, ne_eq] at hb))
  rename_i b1 hb1 b2 hb2 b3
  have k1 : Kn (((H.set b1 ⟨[.int .i64 p, .slice A xs.length c], true, 177, 2⟩).set b2 ⟨[.int .i64 0, .slice none 0 0], true, 179, 2⟩).set b3 ⟨[.int .i64 0, .slice none 0 0], true, 179, 2⟩) b1 ⟨[.int .i64 p, .slice A xs.length c], true, 177, 2⟩ := ((Kn.same _ _ _).set (fun e => hb2.1 e.symm) _).set (fun e => hb.2.1 e.symm) _
  have k2 : Kn (((H.set b1 ⟨[.int .i64 p, .slice A xs.length c], true, 177, 2⟩).set b2 ⟨[.int .i64 0, .slice none 0 0], true, 179, 2⟩).set b3 ⟨[.int .i64 0, .slice none 0 0], true, 179, 2⟩) b2 ⟨[.int .i64 0, .slice none 0 0], true, 179, 2⟩ := (Kn.same _ _ _).set (fun e => hb.1 e.symm) _
  have k3 : Kn (((H.set b1 ⟨[.int .i64 p, .slice A xs.length c], true, 177, 2⟩).set b2 ⟨[.int .i64 0, .slice none 0 0], true, 179, 2⟩).set b3 ⟨[.int .i64 0, .slice none 0 0], true, 179, 2⟩) b3 ⟨[.int .i64 0, .slice none 0 0], true, 179, 2⟩ := Kn.same _ _ _
  have l3 : AHeap.le H (((H.set b1 ⟨[.int .i64 p, .slice A xs.length c], true, 177, 2⟩).set b2 ⟨[.int .i64 0, .slice none 0 0], true, 179, 2⟩).set b3 ⟨[.int .i64 0, .slice none 0 0], true, 179, 2⟩) := le_fresh0 (le_fresh0 ((AHeap.le.refl H).fresh hb1 _) hb2.2 _) hb.2.2 _
  have h31 : ¬ b1 = b3 := fun e => hb.2.1 e.symm
  have h32 : ¬ b2 = b3 := fun e => hb.1 e.symm
  generalize (((H.set b1 ⟨[.int .i64 p, .slice A xs.length c], true, 177, 2⟩).set b2 ⟨[.int .i64 0, .slice none 0 0], true, 179, 2⟩).set b3 ⟨[.int .i64 0, .slice none 0 0], true, 179, 2⟩) = C at k1 k2 k3 l3
  have c0 := k1.cell (j := 0) rfl
  repeat' (first | simp -implicitDefEqProofs only [zG1,zG2,zG3,zG4,zG5,zG6,zG7,eq_self,resV,rval,X.val,binv,fillL,setR,↓reduceIte,Nat.reduceEqDiff,Nat.reduceAdd,Nat.reduceMul,Nat.reduceLeDiff,Nat.reduceLT,Nat.reduceSub,reduceCtorEq,zGp, c0, adr_lit, Nat.zero_add] | ((with_reducible refine rows_intro (fun _ hb => ?_)); try simp only [set_none, ne_eq] at hb) | ((with_reducible refine new_intro (fun _ hb => ?_)); try simp only [set_none, ne_eq] at hb) | (with_reducible refine draw_same ?_) | ((with_reducible refine gd_split ?_ (fun _ => ?_) (fun _ => ?_)); exact rfl) | ((with_reducible refine td_split ?_ (fun _ => ?_) (fun _ => ?_)); exact rfl) | (with_reducible refine c_split (fun _ => ?_) (fun _ => ?_)))
  refine st_kn k3 rfl rfl (by simp) (by simp [vcI, ocI]) (fun C4 hc4 ho4 k4 => ?_)
  have k4' : Kn C4 b3 ⟨[.int .i64 p, .slice none 0 0], true, 179, 2⟩ := k4
  have k14 := k1.chg hc4 (by simpa using h31)
  have k24 := k2.chg hc4 (by simpa using h32)
  have l4 : AHeap.le H C4 := hc4.keep l3 (New.one hb.2.2)
  have c1 := k14.cell (j := 1) rfl
  repeat' (first | simp -implicitDefEqProofs only [zG1,zG2,zG3,zG4,zG5,zG6,zG7,eq_self,resV,rval,X.val,binv,fillL,setR,↓reduceIte,Nat.reduceEqDiff,Nat.reduceAdd,Nat.reduceMul,Nat.reduceLeDiff,Nat.reduceLT,Nat.reduceSub,reduceCtorEq,zGp, c1, adr_lit, Nat.zero_add] | ((with_reducible refine rows_intro (fun _ hb => ?_)); try simp only [set_none, ne_eq] at hb) | ((with_reducible refine new_intro (fun _ hb => ?_)); try simp only [set_none, ne_eq] at hb) | (with_reducible refine draw_same ?_) | ((with_reducible refine gd_split ?_ (fun _ => ?_) (fun _ => ?_)); exact rfl) | ((with_reducible refine td_split ?_ (fun _ => ?_) (fun _ => ?_)); exact rfl) | (with_reducible refine c_split (fun _ => ?_) (fun _ => ?_)))
  refine toIntS_ok _ _ _ A c xs (hx.le l4) hn (fun v C5 bs5 l5 n5 w5 => ?_)
  have k25 := k24.trans l5
  have k35 := k4'.trans l5
  obtain ⟨A5, c5, rfl, -⟩ := w5.fl
  have ne5 : ∀ y kk, Kn C4 y kk → ¬ y ∈ bs5 := fun y kk hk hm => hk.ne (n5 y hm)
  repeat' (first | simp -implicitDefEqProofs only [zG1,zG2,zG3,zG4,zG5,zG6,zG7,eq_self,resV,rval,X.val,binv,fillL,setR,↓reduceIte,Nat.reduceEqDiff,Nat.reduceAdd,Nat.reduceMul,Nat.reduceLeDiff,Nat.reduceLT,Nat.reduceSub,reduceCtorEq,zGp, adr_lit, Nat.zero_add] | ((with_reducible refine rows_intro (fun _ hb => ?_)); try simp only [set_none, ne_eq] at hb) | ((with_reducible refine new_intro (fun _ hb => ?_)); try simp only [set_none, ne_eq] at hb) | (with_reducible refine draw_same ?_) | ((with_reducible refine gd_split ?_ (fun _ => ?_) (fun _ => ?_)); exact rfl) | ((with_reducible refine td_split ?_ (fun _ => ?_) (fun _ => ?_)); exact rfl) | (with_reducible refine c_split (fun _ => ?_) (fun _ => ?_)))
  refine st_kn k35 rfl rfl (by simp) (by simp [vcS, ocS]) (fun C6 hc6 ho6 k6 => ?_)
  have k6' : Kn C6 b3 ⟨[.int .i64 p, .slice A5 xs.length c5], true, 179, 2⟩ := k6
  have k26 := k25.chg hc6 (by simpa using h32)
  have w6 := w5.chg hc6 (fun y hy e => ne5 _ _ k4' (by simp at e; exact e ▸ hy))
  have r6 : C6.rdn (some ⟨b3, 0, none⟩) 2 = some [.int .i64 p, .slice A5 xs.length c5] := k6'.rdn (l := [.int .i64 p, .slice A5 xs.length c5]) (o := 0) fun j _ => by rw [Nat.zero_add]
  repeat' (first | simp -implicitDefEqProofs only [zG1,zG2,zG3,zG4,zG5,zG6,zG7,eq_self,resV,rval,X.val,binv,fillL,setR,↓reduceIte,Nat.reduceEqDiff,Nat.reduceAdd,Nat.reduceMul,Nat.reduceLeDiff,Nat.reduceLT,Nat.reduceSub,reduceCtorEq,zGp, r6, adr_lit, Nat.zero_add] | ((with_reducible refine rows_intro (fun _ hb => ?_)); try simp only [set_none, ne_eq] at hb) | ((with_reducible refine new_intro (fun _ hb => ?_)); try simp only [set_none, ne_eq] at hb) | (with_reducible refine draw_same ?_) | ((with_reducible refine gd_split ?_ (fun _ => ?_) (fun _ => ?_)); exact rfl) | ((with_reducible refine td_split ?_ (fun _ => ?_) (fun _ => ?_)); exact rfl) | (with_reducible refine c_split (fun _ => ?_) (fun _ => ?_)))
  refine st_kn k26 rfl rfl (by simp) (by simp [vcA, Value.oneCell']) (fun C7 hc7 ho7 k7 => ?_)
  have k7' : Kn C7 b2 ⟨[.int .i64 p, .slice A5 xs.length c5], true, 179, 2⟩ := k7
  have w7 := w6.chg hc7 (fun y hy e => ne5 _ _ k24 (by simp at e; exact e ▸ hy))
  have r7 : C7.rdn (some ⟨b2, 0, none⟩) 2 = some [.int .i64 p, .slice A5 xs.length c5] := k7'.rdn (l := [.int .i64 p, .slice A5 xs.length c5]) (o := 0) fun j _ => by rw [Nat.zero_add]
  have l7 : AHeap.le H C7 := hc7.keep (hc6.keep (l4.trans l5) (New.one hb.2.2)) (New.one hb2.2)
  repeat' (first | simp -implicitDefEqProofs only [zG1,zG2,zG3,zG4,zG5,zG6,zG7,eq_self,resV,rval,X.val,binv,fillL,setR,↓reduceIte,Nat.reduceEqDiff,Nat.reduceAdd,Nat.reduceMul,Nat.reduceLeDiff,Nat.reduceLT,Nat.reduceSub,reduceCtorEq,zGp, r7, adr_lit, Nat.zero_add] | ((with_reducible refine rows_intro (fun _ hb => ?_)); try simp only [set_none, ne_eq] at hb) | ((with_reducible refine new_intro (fun _ hb => ?_)); try simp only [set_none, ne_eq] at hb) | (with_reducible refine draw_same ?_) | ((with_reducible refine gd_split ?_ (fun _ => ?_) (fun _ => ?_)); exact rfl) | ((with_reducible refine td_split ?_ (fun _ => ?_) (fun _ => ?_)); exact rfl) | (with_reducible refine c_split (fun _ => ?_) (fun _ => ?_)))
  exact ret_same (h _ _ bs5 l7 (n5.le l4) w7)
theorem eqThreadS_ok (A B : Option Addr) (ca cb : Nat) (ts : List (List Int × Int)) (hx : FP H A 0 1 ts) (hy : FP H B 0 1 ts) (hn : ts.length ≤ 1048576) (hL : ∀ x ∈ ts, x.1.length ≤ 1048576) (h : K (.bool true) H) :
    ACalls Try.prog w0 95 [.slice A ts.length ca, .slice B ts.length cb] H K := by
  refine acalls_of_sx mix Try.func95 of95 (by simp [ir95]) ?_; rw [ir95]; (try delta qT qI qC qO qM qG)
  repeat' (first | simp -implicitDefEqProofs only [zG1,zG2,zG3,zG4,zG5,zG6,zG7,eq_self,resV,rval,X.val,binv,fillL,setR,↓reduceIte,Nat.reduceEqDiff,Nat.reduceAdd,Nat.reduceMul,Nat.reduceLeDiff,Nat.reduceLT,Nat.reduceSub,reduceCtorEq,zGp, bne_self_eq_false] | ((with_reducible refine rows_intro (fun _ hb => ?_)); try simp only [set_none, ne_eq] at hb) | ((with_reducible refine new_intro (fun _ hb => ?_)); try simp only [set_none, ne_eq] at hb) | (with_reducible refine draw_same ?_) | ((with_reducible refine gd_split ?_ (fun _ => ?_) (fun _ => ?_)); exact rfl) | ((with_reducible refine td_split ?_ (fun _ => ?_) (fun _ => ?_)); exact rfl) | (with_reducible refine c_split (fun _ => ?_) (fun _ => ?_)))
  refine for_rule ts.length (fun k fr C => C = H ∧ fr 0 = .slice A ts.length ca ∧ fr 1 = .slice B ts.length cb ∧ fr 5 = .int .i64 k) ⟨rfl, (by first | rfl | (simp only [put_at, ↓reduceIte, Nat.reduceEqDiff]; first | done | rfl | assumption) | simp [put_at, *]), (by first | rfl | (simp only [put_at, ↓reduceIte, Nat.reduceEqDiff]; first | done | rfl | assumption) | simp [put_at, *]), (by first | rfl | (simp only [put_at, ↓reduceIte, Nat.reduceEqDiff]; first | done | rfl | assumption) | simp [put_at, *])⟩ ?_ ?_
  · rintro k fr C hk ⟨rfl, f0, f1, f5⟩ N hN
    have g0 := lt_dec hk
    have g1 := rng hk
    have g3 := up1 hk (by omega)
    obtain ⟨q1, A', c', q2, fl⟩ := hx.rd0 hk
    obtain ⟨q3, B', c'', q4, fl'⟩ := hy.rd0 hk
    have hb := hL _ (List.getElem_mem hk)
    repeat' (first | simp -implicitDefEqProofs only [zG1,zG2,zG3,zG4,zG5,zG6,zG7,eq_self,resV,rval,X.val,binv,fillL,setR,↓reduceIte,Nat.reduceEqDiff,Nat.reduceAdd,Nat.reduceMul,Nat.reduceLeDiff,Nat.reduceLT,Nat.reduceSub,reduceCtorEq,zGp, f0, f1, f5, g0, g1, g3, q1, q2, q3, q4] | ((with_reducible refine rows_intro (fun _ hb => ?_)); try simp only [set_none, ne_eq] at hb) | ((with_reducible refine new_intro (fun _ hb => ?_)); try simp only [set_none, ne_eq] at hb) | (with_reducible refine draw_same ?_) | ((with_reducible refine gd_split ?_ (fun _ => ?_) (fun _ => ?_)); exact rfl) | ((with_reducible refine td_split ?_ (fun _ => ?_) (fun _ => ?_)); exact rfl) | (with_reducible refine c_split (fun _ => ?_) (fun _ => ?_)) | (with_reducible refine eqThread_ok _ _ _ A' B' c' c'' ts[k].1 ts[k].2 fl fl' (by omega) ?_))
    exact hN _ _ _ (.refl _) ⟨rfl, (by first | rfl | (simp only [put_at, ↓reduceIte, Nat.reduceEqDiff]; first | done | rfl | assumption) | simp [put_at, *]), (by first | rfl | (simp only [put_at, ↓reduceIte, Nat.reduceEqDiff]; first | done | rfl | assumption) | simp [put_at, *]), (by first | rfl | (simp only [put_at, ↓reduceIte, Nat.reduceEqDiff]; first | done | rfl | assumption) | simp [put_at, *])⟩
  · rintro fr C ⟨rfl, f0, f1, f5⟩ N
    have g0 : decide ((ts.length : Int) < (ts.length : Int)) = false := by simp
    repeat' (first | simp -implicitDefEqProofs only [zG1,zG2,zG3,zG4,zG5,zG6,zG7,eq_self,resV,rval,X.val,binv,fillL,setR,↓reduceIte,Nat.reduceEqDiff,Nat.reduceAdd,Nat.reduceMul,Nat.reduceLeDiff,Nat.reduceLT,Nat.reduceSub,reduceCtorEq,zGp, f0, f1, f5, g0] | ((with_reducible refine rows_intro (fun _ hb => ?_)); try simp only [set_none, ne_eq] at hb) | ((with_reducible refine new_intro (fun _ hb => ?_)); try simp only [set_none, ne_eq] at hb) | (with_reducible refine draw_same ?_) | ((with_reducible refine gd_split ?_ (fun _ => ?_) (fun _ => ?_)); exact rfl) | ((with_reducible refine td_split ?_ (fun _ => ?_) (fun _ => ?_)); exact rfl) | (with_reducible refine c_split (fun _ => ?_) (fun _ => ?_)))
    exact ret_same h
theorem eqBox_ok (A B : Option Addr) (ca cb : Nat) (xs : List Int) (p : Int) (hx : Fl H A (ints xs)) (hy : Fl H B (ints xs)) (hn : xs.length ≤ 4611686018427387904) (h : K (.bool true) H) :
    ACalls Try.prog w0 151 [.agg #[.int .i64 p, .slice A xs.length ca], .agg #[.int .i64 p, .slice B xs.length cb]] H K := by
  refine acalls_of_sx mix Try.func151 of151 (by simp [ir151]) ?_; rw [ir151]; (try delta qT qI qC qO qM qG)
  repeat' (first | simp -implicitDefEqProofs only [zG1,zG2,zG3,zG4,zG5,zG6,zG7,eq_self,resV,rval,X.val,binv,fillL,setR,↓reduceIte,Nat.reduceEqDiff,Nat.reduceAdd,Nat.reduceMul,Nat.reduceLeDiff,Nat.reduceLT,Nat.reduceSub,reduceCtorEq,zGr] | ((with_reducible refine rows_intro (fun _ hb => ?_)); try simp only [set_none, ne_eq] at hb) | ((with_reducible refine new_intro (fun _ hb => ?_)); try simp only [set_none, ne_eq] at hb) | (with_reducible refine draw_same ?_) | ((with_reducible refine gd_split ?_ (fun _ => ?_) (fun _ => ?_)); exact rfl) | ((with_reducible refine td_split ?_ (fun _ => ?_) (fun _ => ?_)); exact rfl) | (with_reducible refine c_split (fun _ => ?_) (fun _ => ?_)))
  have l1 : AHeap.le H ((H.set _ _).set _ _) := ((AHeap.le.refl H).fresh ‹H _ = none› ⟨[.int .i64 p, .slice A xs.length ca], true, 179, 2⟩).trans ((AHeap.le.refl _).fresh (set_none.2 hb) ⟨[.int .i64 p, .slice B xs.length cb], true, 179, 2⟩)
  repeat' (first | simp -implicitDefEqProofs only [zG1,zG2,zG3,zG4,zG5,zG6,zG7,eq_self,resV,rval,X.val,binv,fillL,setR,↓reduceIte,Nat.reduceEqDiff,Nat.reduceAdd,Nat.reduceMul,Nat.reduceLeDiff,Nat.reduceLT,Nat.reduceSub,reduceCtorEq,zGr, decide_true, bne_self_eq_false, *] | ((with_reducible refine rows_intro (fun _ hb => ?_)); try simp only [set_none, ne_eq] at hb) | ((with_reducible refine new_intro (fun _ hb => ?_)); try simp only [set_none, ne_eq] at hb) | (with_reducible refine draw_same ?_) | ((with_reducible refine gd_split ?_ (fun _ => ?_) (fun _ => ?_)); exact rfl) | ((with_reducible refine td_split ?_ (fun _ => ?_) (fun _ => ?_)); exact rfl) | (with_reducible refine c_split (fun _ => ?_) (fun _ => ?_)) | (with_reducible refine eqIntS_ok _ _ _ _ _ _ _ _ _ (hx.le l1) (hy.le l1) hn ?_))
  exact ⟨H, l1, h⟩
theorem eqBoxS_ok (A B : Option Addr) (ca cb : Nat) (ts : List (List Int × Int)) (hx : FP H A 1 0 ts) (hy : FP H B 1 0 ts) (hn : ts.length ≤ 1048576) (hL : ∀ x ∈ ts, x.1.length ≤ 1048576) (h : K (.bool true) H) :
    ACalls Try.prog w0 96 [.slice A ts.length ca, .slice B ts.length cb] H K := by
  refine acalls_of_sx mix Try.func96 of96 (by simp [ir96]) ?_; rw [ir96]; (try delta qT qI qC qO qM qG)
  repeat' (first | simp -implicitDefEqProofs only [zG1,zG2,zG3,zG4,zG5,zG6,zG7,eq_self,resV,rval,X.val,binv,fillL,setR,↓reduceIte,Nat.reduceEqDiff,Nat.reduceAdd,Nat.reduceMul,Nat.reduceLeDiff,Nat.reduceLT,Nat.reduceSub,reduceCtorEq,zGp, bne_self_eq_false] | ((with_reducible refine rows_intro (fun _ hb => ?_)); try simp only [set_none, ne_eq] at hb) | ((with_reducible refine new_intro (fun _ hb => ?_)); try simp only [set_none, ne_eq] at hb) | (with_reducible refine draw_same ?_) | ((with_reducible refine gd_split ?_ (fun _ => ?_) (fun _ => ?_)); exact rfl) | ((with_reducible refine td_split ?_ (fun _ => ?_) (fun _ => ?_)); exact rfl) | (with_reducible refine c_split (fun _ => ?_) (fun _ => ?_)))
  refine for_rule ts.length (fun k fr C => C = H ∧ fr 0 = .slice A ts.length ca ∧ fr 1 = .slice B ts.length cb ∧ fr 5 = .int .i64 k) ⟨rfl, (by first | rfl | (simp only [put_at, ↓reduceIte, Nat.reduceEqDiff]; first | done | rfl | assumption) | simp [put_at, *]), (by first | rfl | (simp only [put_at, ↓reduceIte, Nat.reduceEqDiff]; first | done | rfl | assumption) | simp [put_at, *]), (by first | rfl | (simp only [put_at, ↓reduceIte, Nat.reduceEqDiff]; first | done | rfl | assumption) | simp [put_at, *])⟩ ?_ ?_
  · rintro k fr C hk ⟨rfl, f0, f1, f5⟩ N hN
    have g0 := lt_dec hk
    have g1 := rng hk
    have g3 := up1 hk (by omega)
    obtain ⟨q1, A', c', q2, fl⟩ := hx.rd1 hk
    obtain ⟨q3, B', c'', q4, fl'⟩ := hy.rd1 hk
    have hb := hL _ (List.getElem_mem hk)
    repeat' (first | simp -implicitDefEqProofs only [zG1,zG2,zG3,zG4,zG5,zG6,zG7,eq_self,resV,rval,X.val,binv,fillL,setR,↓reduceIte,Nat.reduceEqDiff,Nat.reduceAdd,Nat.reduceMul,Nat.reduceLeDiff,Nat.reduceLT,Nat.reduceSub,reduceCtorEq,zGp, f0, f1, f5, g0, g1, g3, q1, q2, q3, q4] | ((with_reducible refine rows_intro (fun _ hb => ?_)); try simp only [set_none, ne_eq] at hb) | ((with_reducible refine new_intro (fun _ hb => ?_)); try simp only [set_none, ne_eq] at hb) | (with_reducible refine draw_same ?_) | ((with_reducible refine gd_split ?_ (fun _ => ?_) (fun _ => ?_)); exact rfl) | ((with_reducible refine td_split ?_ (fun _ => ?_) (fun _ => ?_)); exact rfl) | (with_reducible refine c_split (fun _ => ?_) (fun _ => ?_)) | (with_reducible refine eqBox_ok _ _ _ A' B' c' c'' ts[k].1 ts[k].2 fl fl' (by omega) ?_))
    exact hN _ _ _ (.refl _) ⟨rfl, (by first | rfl | (simp only [put_at, ↓reduceIte, Nat.reduceEqDiff]; first | done | rfl | assumption) | simp [put_at, *]), (by first | rfl | (simp only [put_at, ↓reduceIte, Nat.reduceEqDiff]; first | done | rfl | assumption) | simp [put_at, *]), (by first | rfl | (simp only [put_at, ↓reduceIte, Nat.reduceEqDiff]; first | done | rfl | assumption) | simp [put_at, *])⟩
  · rintro fr C ⟨rfl, f0, f1, f5⟩ N
    have g0 : decide ((ts.length : Int) < (ts.length : Int)) = false := by simp
    repeat' (first | simp -implicitDefEqProofs only [zG1,zG2,zG3,zG4,zG5,zG6,zG7,eq_self,resV,rval,X.val,binv,fillL,setR,↓reduceIte,Nat.reduceEqDiff,Nat.reduceAdd,Nat.reduceMul,Nat.reduceLeDiff,Nat.reduceLT,Nat.reduceSub,reduceCtorEq,zGp, f0, f1, f5, g0] | ((with_reducible refine rows_intro (fun _ hb => ?_)); try simp only [set_none, ne_eq] at hb) | ((with_reducible refine new_intro (fun _ hb => ?_)); try simp only [set_none, ne_eq] at hb) | (with_reducible refine draw_same ?_) | ((with_reducible refine gd_split ?_ (fun _ => ?_) (fun _ => ?_)); exact rfl) | ((with_reducible refine td_split ?_ (fun _ => ?_) (fun _ => ?_)); exact rfl) | (with_reducible refine c_split (fun _ => ?_) (fun _ => ?_)))
    exact ret_same h
theorem eqQuadSS_ok (A B : Option Addr) (ca cb : Nat) (L : List (List Qd)) (hx : FR H A L) (hy : FR H B L) (hn : L.length ≤ 1048576) (hL : ∀ x ∈ L, x.length ≤ 1048576) (h : K (.bool true) H) :
    ACalls Try.prog w0 27 [.slice A L.length ca, .slice B L.length cb] H K := by
  refine acalls_of_sx mix Try.func27 of27 (by simp [ir27]) ?_; rw [ir27]; (try delta qT qI qC qO qM qG)
  repeat' (first | simp -implicitDefEqProofs only [zG1,zG2,zG3,zG4,zG5,zG6,zG7,eq_self,resV,rval,X.val,binv,fillL,setR,↓reduceIte,Nat.reduceEqDiff,Nat.reduceAdd,Nat.reduceMul,Nat.reduceLeDiff,Nat.reduceLT,Nat.reduceSub,reduceCtorEq,zGp, bne_self_eq_false] | ((with_reducible refine rows_intro (fun _ hb => ?_)); try simp only [set_none, ne_eq] at hb) | ((with_reducible refine new_intro (fun _ hb => ?_)); try simp only [set_none, ne_eq] at hb) | (with_reducible refine draw_same ?_) | ((with_reducible refine gd_split ?_ (fun _ => ?_) (fun _ => ?_)); exact rfl) | ((with_reducible refine td_split ?_ (fun _ => ?_) (fun _ => ?_)); exact rfl) | (with_reducible refine c_split (fun _ => ?_) (fun _ => ?_)))
  refine for_rule L.length (fun k fr C => C = H ∧ fr 0 = .slice A L.length ca ∧ fr 1 = .slice B L.length cb ∧ fr 5 = .int .i64 k) ⟨rfl, (by first | rfl | (simp only [put_at, ↓reduceIte, Nat.reduceEqDiff]; first | done | rfl | assumption) | simp [put_at, *]), (by first | rfl | (simp only [put_at, ↓reduceIte, Nat.reduceEqDiff]; first | done | rfl | assumption) | simp [put_at, *]), (by first | rfl | (simp only [put_at, ↓reduceIte, Nat.reduceEqDiff]; first | done | rfl | assumption) | simp [put_at, *])⟩ ?_ ?_
  · rintro k fr C hk ⟨rfl, f0, f1, f5⟩ N hN
    have g0 := lt_dec hk
    have g1 := rng hk
    have g3 := up1 hk (by omega)
    obtain ⟨q1, A', c', q2, fl⟩ := hx k hk
    obtain ⟨q3, B', c'', q4, fl'⟩ := hy k hk
    have hb := hL _ (List.getElem_mem hk)
    repeat' (first | simp -implicitDefEqProofs only [zG1,zG2,zG3,zG4,zG5,zG6,zG7,eq_self,resV,rval,X.val,binv,fillL,setR,↓reduceIte,Nat.reduceEqDiff,Nat.reduceAdd,Nat.reduceMul,Nat.reduceLeDiff,Nat.reduceLT,Nat.reduceSub,reduceCtorEq,zGp, f0, f1, f5, g0, g1, g3, q1, q2, q3, q4, Nat.mul_one, decide_true] | ((with_reducible refine rows_intro (fun _ hb => ?_)); try simp only [set_none, ne_eq] at hb) | ((with_reducible refine new_intro (fun _ hb => ?_)); try simp only [set_none, ne_eq] at hb) | (with_reducible refine draw_same ?_) | ((with_reducible refine gd_split ?_ (fun _ => ?_) (fun _ => ?_)); exact rfl) | ((with_reducible refine td_split ?_ (fun _ => ?_) (fun _ => ?_)); exact rfl) | (with_reducible refine c_split (fun _ => ?_) (fun _ => ?_)) | (with_reducible refine eqQuadS_ok _ _ _ A' B' c' c'' L[k] L[k] fl fl' (by omega) ?_))
    exact hN _ _ _ (.refl _) ⟨rfl, (by first | rfl | (simp only [put_at, ↓reduceIte, Nat.reduceEqDiff]; first | done | rfl | assumption) | simp [put_at, *]), (by first | rfl | (simp only [put_at, ↓reduceIte, Nat.reduceEqDiff]; first | done | rfl | assumption) | simp [put_at, *]), (by first | rfl | (simp only [put_at, ↓reduceIte, Nat.reduceEqDiff]; first | done | rfl | assumption) | simp [put_at, *])⟩
  · rintro fr C ⟨rfl, f0, f1, f5⟩ N
    have g0 : decide ((L.length : Int) < (L.length : Int)) = false := by simp
    repeat' (first | simp -implicitDefEqProofs only [zG1,zG2,zG3,zG4,zG5,zG6,zG7,eq_self,resV,rval,X.val,binv,fillL,setR,↓reduceIte,Nat.reduceEqDiff,Nat.reduceAdd,Nat.reduceMul,Nat.reduceLeDiff,Nat.reduceLT,Nat.reduceSub,reduceCtorEq,zGp, f0, f1, f5, g0] | ((with_reducible refine rows_intro (fun _ hb => ?_)); try simp only [set_none, ne_eq] at hb) | ((with_reducible refine new_intro (fun _ hb => ?_)); try simp only [set_none, ne_eq] at hb) | (with_reducible refine draw_same ?_) | ((with_reducible refine gd_split ?_ (fun _ => ?_) (fun _ => ?_)); exact rfl) | ((with_reducible refine td_split ?_ (fun _ => ?_) (fun _ => ?_)); exact rfl) | (with_reducible refine c_split (fun _ => ?_) (fun _ => ?_)))
    exact ret_same h
end Go.Proofs.Ytfjhjfddgdokgaa
namespace Go.Proofs.Ytfjhjfddgdokgaa
set_option linter.all false
open Go Go.RowKit
set_option maxRecDepth 100000
variable (w0 : World) (H : AHeap) (K : Value → AHeap → Prop)
def quadThere (q : Qd) (n : Int) : Bool := (q.op != 6 && q.op != 7) || decide (q.n < n)
theorem boxThere_ok (q : Qd) (n : Int) (h : K (.bool (quadThere q n)) H) : ACalls Try.prog w0 94 [q.val, .int .i64 n] H K := by
  refine acalls_of_sx mix Try.func94 of94 (by simp [ir94]) ?_; rw [ir94]; (try delta qT qI qC qO qM qG)
  repeat' (first | simp -implicitDefEqProofs only [zG1,zG2,zG3,zG4,zG5,zG6,zG7,eq_self,resV,rval,X.val,binv,fillL,setR,↓reduceIte,Nat.reduceEqDiff,Nat.reduceAdd,Nat.reduceMul,Nat.reduceLeDiff,Nat.reduceLT,Nat.reduceSub,reduceCtorEq,zGr, q_val] | ((with_reducible refine rows_intro (fun _ hb => ?_)); try simp only [set_none, ne_eq] at hb) | ((with_reducible refine new_intro (fun _ hb => ?_)); try simp only [set_none, ne_eq] at hb) | (with_reducible refine draw_same ?_) | ((with_reducible refine gd_split ?_ (fun _ => ?_) (fun _ => ?_)); exact rfl) | ((with_reducible refine td_split ?_ (fun _ => ?_) (fun _ => ?_)); exact rfl) | (with_reducible refine c_split (fun _ => ?_) (fun _ => ?_)))
  all_goals exact ⟨H, (AHeap.le.refl H).fresh (by assumption) _, by simp only [quadThere, *, Bool.false_and, Bool.true_and, Bool.and_self, Bool.false_or, Bool.true_or] at h ⊢; exact h⟩
theorem l23Quad_ok (q : Qd) (n : Int) (h : K (.bool (quadThere q n)) H) : ACalls Try.prog w0 143 [q.val, .int .i64 n] H K := by
  refine acalls_of_sx mix Try.func143 of143 (by simp [ir143]) ?_; rw [ir143]; (try delta qT qI qC qO qM qG)
  repeat' (first | simp -implicitDefEqProofs only [zG1,zG2,zG3,zG4,zG5,zG6,zG7,eq_self,resV,rval,X.val,binv,fillL,setR,↓reduceIte,Nat.reduceEqDiff,Nat.reduceAdd,Nat.reduceMul,Nat.reduceLeDiff,Nat.reduceLT,Nat.reduceSub,reduceCtorEq,zGr, q_val] | ((with_reducible refine rows_intro (fun _ hb => ?_)); try simp only [set_none, ne_eq] at hb) | ((with_reducible refine new_intro (fun _ hb => ?_)); try simp only [set_none, ne_eq] at hb) | (with_reducible refine draw_same ?_) | ((with_reducible refine gd_split ?_ (fun _ => ?_) (fun _ => ?_)); exact rfl) | ((with_reducible refine td_split ?_ (fun _ => ?_) (fun _ => ?_)); exact rfl) | (with_reducible refine c_split (fun _ => ?_) (fun _ => ?_)))
  all_goals exact ⟨H, (AHeap.le.refl H).fresh (by assumption) _, by simp only [quadThere, *, Bool.false_and, Bool.true_and, Bool.and_self, Bool.false_or, Bool.true_or] at h ⊢; exact h⟩
theorem l4WordsL_ok (A : Option Addr) (c : Nat) (xs : List Int) (hx : Fl H A (ints xs)) (hn : xs.length ≤ 1048576) (h : K (.bool (words xs)) H) :
    ACalls Try.prog w0 88 [.slice A xs.length c, .int .i64 xs.length] H K := by
  have d1 : ((xs.length : Int) != (xs.length : Int)) = false := by simp
  refine acalls_of_sx mix Try.func88 of88 (by simp [ir88]) ?_; rw [ir88]; (try delta qT qI qC qO qM qG)
  repeat' (first | simp -implicitDefEqProofs only [zG1,zG2,zG3,zG4,zG5,zG6,zG7,eq_self,resV,rval,X.val,binv,fillL,setR,↓reduceIte,Nat.reduceEqDiff,Nat.reduceAdd,Nat.reduceMul,Nat.reduceLeDiff,Nat.reduceLT,Nat.reduceSub,reduceCtorEq,zGp, d1] | ((with_reducible refine rows_intro (fun _ hb => ?_)); try simp only [set_none, ne_eq] at hb) | ((with_reducible refine new_intro (fun _ hb => ?_)); try simp only [set_none, ne_eq] at hb) | (with_reducible refine draw_same ?_) | ((with_reducible refine gd_split ?_ (fun _ => ?_) (fun _ => ?_)); exact rfl) | ((with_reducible refine td_split ?_ (fun _ => ?_) (fun _ => ?_)); exact rfl) | (with_reducible refine c_split (fun _ => ?_) (fun _ => ?_)))
  refine for_rule xs.length (fun k fr C => C = H ∧ (∀ i (hi : i < xs.length), i < k → wordValid xs[i] = true) ∧ fr 0 = .slice A xs.length c ∧ fr 5 = .int .i64 k)
    ⟨rfl, fun i _ hi => absurd hi (Nat.not_lt_zero _), (by first | rfl | (simp only [put_at, ↓reduceIte, Nat.reduceEqDiff]; first | done | rfl | assumption) | simp [put_at, *]), (by first | rfl | (simp only [put_at, ↓reduceIte, Nat.reduceEqDiff]; first | done | rfl | assumption) | simp [put_at, *])⟩ ?_ ?_
  · rintro k fr C hk ⟨rfl, hw, f0, f5⟩ N hN
    have g0 := lt_dec hk
    have g1 := rng hk
    have g2 := up1 hk (by omega)
    have q1 := hx.int hk
    have q2 := hx.ints_is hk
    cases hv : wordValid xs[k] with
    | true =>
      repeat' (first | simp -implicitDefEqProofs only [zG1,zG2,zG3,zG4,zG5,zG6,zG7,eq_self,resV,rval,X.val,binv,fillL,setR,↓reduceIte,Nat.reduceEqDiff,Nat.reduceAdd,Nat.reduceMul,Nat.reduceLeDiff,Nat.reduceLT,Nat.reduceSub,reduceCtorEq,zGp, f0, f5, g0, g1, g2, q1, q2, hv, Nat.mul_one] | ((with_reducible refine rows_intro (fun _ hb => ?_)); try simp only [set_none, ne_eq] at hb) | ((with_reducible refine new_intro (fun _ hb => ?_)); try simp only [set_none, ne_eq] at hb) | (with_reducible refine draw_same ?_) | ((with_reducible refine gd_split ?_ (fun _ => ?_) (fun _ => ?_)); exact rfl) | ((with_reducible refine td_split ?_ (fun _ => ?_) (fun _ => ?_)); exact rfl) | (with_reducible refine c_split (fun _ => ?_) (fun _ => ?_)) | (with_reducible refine wordValidS_ok _ _ _ _ ?_))
      refine hN _ _ _ (.refl _) ⟨rfl, fun i hi hik => ?_, (by first | rfl | (simp only [put_at, ↓reduceIte, Nat.reduceEqDiff]; first | done | rfl | assumption) | simp [put_at, *]), (by first | rfl | (simp only [put_at, ↓reduceIte, Nat.reduceEqDiff]; first | done | rfl | assumption) | simp [put_at, *])⟩
      rcases Nat.lt_succ_iff_lt_or_eq.1 hik with hik | rfl
      · exact hw i hi hik
      · exact hv
    | false =>
      have e : words xs = false := by
        rw [words, List.all_eq_false]
        exact ⟨xs[k], List.getElem_mem hk, by rw [hv]; simp⟩
      rw [e] at h
      repeat' (first | simp -implicitDefEqProofs only [zG1,zG2,zG3,zG4,zG5,zG6,zG7,eq_self,resV,rval,X.val,binv,fillL,setR,↓reduceIte,Nat.reduceEqDiff,Nat.reduceAdd,Nat.reduceMul,Nat.reduceLeDiff,Nat.reduceLT,Nat.reduceSub,reduceCtorEq,zGp, f0, f5, g0, g1, g2, q1, q2, hv, Nat.mul_one] | ((with_reducible refine rows_intro (fun _ hb => ?_)); try simp only [set_none, ne_eq] at hb) | ((with_reducible refine new_intro (fun _ hb => ?_)); try simp only [set_none, ne_eq] at hb) | (with_reducible refine draw_same ?_) | ((with_reducible refine gd_split ?_ (fun _ => ?_) (fun _ => ?_)); exact rfl) | ((with_reducible refine td_split ?_ (fun _ => ?_) (fun _ => ?_)); exact rfl) | (with_reducible refine c_split (fun _ => ?_) (fun _ => ?_)) | (with_reducible refine wordValidS_ok _ _ _ _ ?_))
      exact ret_same h
  · rintro fr C ⟨rfl, hw, f0, f5⟩ N
    have g0 : decide ((xs.length : Int) < (xs.length : Int)) = false := by simp
    have e : words xs = true := by
      rw [words, List.all_eq_true]
      intro x hx
      obtain ⟨i, hi, rfl⟩ := List.getElem_of_mem hx
      exact hw i hi hi
    rw [e] at h
    repeat' (first | simp -implicitDefEqProofs only [zG1,zG2,zG3,zG4,zG5,zG6,zG7,eq_self,resV,rval,X.val,binv,fillL,setR,↓reduceIte,Nat.reduceEqDiff,Nat.reduceAdd,Nat.reduceMul,Nat.reduceLeDiff,Nat.reduceLT,Nat.reduceSub,reduceCtorEq,zGp, f0, f5, g0] | ((with_reducible refine rows_intro (fun _ hb => ?_)); try simp only [set_none, ne_eq] at hb) | ((with_reducible refine new_intro (fun _ hb => ?_)); try simp only [set_none, ne_eq] at hb) | (with_reducible refine draw_same ?_) | ((with_reducible refine gd_split ?_ (fun _ => ?_) (fun _ => ?_)); exact rfl) | ((with_reducible refine td_split ?_ (fun _ => ?_) (fun _ => ?_)); exact rfl) | (with_reducible refine c_split (fun _ => ?_) (fun _ => ?_)))
    exact ret_same h
def codeThere (qs : List Qd) (n : Int) : Bool := qs.all fun q => quadThere q n
theorem l24Code_ok (A : Option Addr) (c : Nat) (qs : List Qd) (n : Int) (hx : Fl H A (qcells qs)) (hn : qs.length ≤ 1048576) (h : K (.bool (codeThere qs n)) H) :
    ACalls Try.prog w0 87 [.slice A qs.length c, .int .i64 n] H K := by
  refine acalls_of_sx mix Try.func87 of87 (by simp [ir87]) ?_; rw [ir87]; (try delta qT qI qC qO qM qG)
  repeat' (first | simp -implicitDefEqProofs only [zG1,zG2,zG3,zG4,zG5,zG6,zG7,eq_self,resV,rval,X.val,binv,fillL,setR,↓reduceIte,Nat.reduceEqDiff,Nat.reduceAdd,Nat.reduceMul,Nat.reduceLeDiff,Nat.reduceLT,Nat.reduceSub,reduceCtorEq,zGp] | ((with_reducible refine rows_intro (fun _ hb => ?_)); try simp only [set_none, ne_eq] at hb) | ((with_reducible refine new_intro (fun _ hb => ?_)); try simp only [set_none, ne_eq] at hb) | (with_reducible refine draw_same ?_) | ((with_reducible refine gd_split ?_ (fun _ => ?_) (fun _ => ?_)); exact rfl) | ((with_reducible refine td_split ?_ (fun _ => ?_) (fun _ => ?_)); exact rfl) | (with_reducible refine c_split (fun _ => ?_) (fun _ => ?_)))
  refine for_rule qs.length (fun k fr C => C = H ∧ (∀ i (hi : i < qs.length), i < k → quadThere qs[i] n = true) ∧ fr 0 = .slice A qs.length c ∧ fr 1 = .int .i64 n ∧ fr 5 = .int .i64 k)
    ⟨rfl, fun i _ hi => absurd hi (Nat.not_lt_zero _), (by first | rfl | (simp only [put_at, ↓reduceIte, Nat.reduceEqDiff]; first | done | rfl | assumption) | simp [put_at, *]), (by first | rfl | (simp only [put_at, ↓reduceIte, Nat.reduceEqDiff]; first | done | rfl | assumption) | simp [put_at, *]), (by first | rfl | (simp only [put_at, ↓reduceIte, Nat.reduceEqDiff]; first | done | rfl | assumption) | simp [put_at, *])⟩ ?_ ?_
  · rintro k fr C hk ⟨rfl, hw, f0, f1, f5⟩ N hN
    have g0 := lt_dec hk
    have g1 := rng hk
    have g2 := up1 hk (by omega)
    have p5 := hx.rdq hk
    have pA := hx.qd_is hk
    cases hv : quadThere qs[k] n with
    | true =>
      repeat' (first | simp -implicitDefEqProofs only [zG1,zG2,zG3,zG4,zG5,zG6,zG7,eq_self,resV,rval,X.val,binv,fillL,setR,↓reduceIte,Nat.reduceEqDiff,Nat.reduceAdd,Nat.reduceMul,Nat.reduceLeDiff,Nat.reduceLT,Nat.reduceSub,reduceCtorEq,zGp, f0, f1, f5, g0, g1, g2, p5, pA, hv] | ((with_reducible refine rows_intro (fun _ hb => ?_)); try simp only [set_none, ne_eq] at hb) | ((with_reducible refine new_intro (fun _ hb => ?_)); try simp only [set_none, ne_eq] at hb) | (with_reducible refine draw_same ?_) | ((with_reducible refine gd_split ?_ (fun _ => ?_) (fun _ => ?_)); exact rfl) | ((with_reducible refine td_split ?_ (fun _ => ?_) (fun _ => ?_)); exact rfl) | (with_reducible refine c_split (fun _ => ?_) (fun _ => ?_)) | (with_reducible refine l23Quad_ok _ _ _ qs[k] n ?_))
      refine hN _ _ _ (.refl _) ⟨rfl, fun i hi hik => ?_, (by first | rfl | (simp only [put_at, ↓reduceIte, Nat.reduceEqDiff]; first | done | rfl | assumption) | simp [put_at, *]), (by first | rfl | (simp only [put_at, ↓reduceIte, Nat.reduceEqDiff]; first | done | rfl | assumption) | simp [put_at, *]), (by first | rfl | (simp only [put_at, ↓reduceIte, Nat.reduceEqDiff]; first | done | rfl | assumption) | simp [put_at, *])⟩
      rcases Nat.lt_succ_iff_lt_or_eq.1 hik with hik | rfl
      · exact hw i hi hik
      · exact hv
    | false =>
      have e : codeThere qs n = false := by
        rw [codeThere, List.all_eq_false]
        exact ⟨qs[k], List.getElem_mem hk, by rw [hv]; simp⟩
      rw [e] at h
      repeat' (first | simp -implicitDefEqProofs only [zG1,zG2,zG3,zG4,zG5,zG6,zG7,eq_self,resV,rval,X.val,binv,fillL,setR,↓reduceIte,Nat.reduceEqDiff,Nat.reduceAdd,Nat.reduceMul,Nat.reduceLeDiff,Nat.reduceLT,Nat.reduceSub,reduceCtorEq,zGp, f0, f1, f5, g0, g1, g2, p5, pA, hv] | ((with_reducible refine rows_intro (fun _ hb => ?_)); try simp only [set_none, ne_eq] at hb) | ((with_reducible refine new_intro (fun _ hb => ?_)); try simp only [set_none, ne_eq] at hb) | (with_reducible refine draw_same ?_) | ((with_reducible refine gd_split ?_ (fun _ => ?_) (fun _ => ?_)); exact rfl) | ((with_reducible refine td_split ?_ (fun _ => ?_) (fun _ => ?_)); exact rfl) | (with_reducible refine c_split (fun _ => ?_) (fun _ => ?_)) | (with_reducible refine l23Quad_ok _ _ _ qs[k] n ?_))
      exact ret_same h
  · rintro fr C ⟨rfl, hw, f0, f1, f5⟩ N
    have g0 : decide ((qs.length : Int) < (qs.length : Int)) = false := by simp
    have e : codeThere qs n = true := by
      rw [codeThere, List.all_eq_true]
      intro q hq
      obtain ⟨i, hi, rfl⟩ := List.getElem_of_mem hq
      exact hw i hi hi
    rw [e] at h
    repeat' (first | simp -implicitDefEqProofs only [zG1,zG2,zG3,zG4,zG5,zG6,zG7,eq_self,resV,rval,X.val,binv,fillL,setR,↓reduceIte,Nat.reduceEqDiff,Nat.reduceAdd,Nat.reduceMul,Nat.reduceLeDiff,Nat.reduceLT,Nat.reduceSub,reduceCtorEq,zGp, f0, f1, f5, g0] | ((with_reducible refine rows_intro (fun _ hb => ?_)); try simp only [set_none, ne_eq] at hb) | ((with_reducible refine new_intro (fun _ hb => ?_)); try simp only [set_none, ne_eq] at hb) | (with_reducible refine draw_same ?_) | ((with_reducible refine gd_split ?_ (fun _ => ?_) (fun _ => ?_)); exact rfl) | ((with_reducible refine td_split ?_ (fun _ => ?_) (fun _ => ?_)); exact rfl) | (with_reducible refine c_split (fun _ => ?_) (fun _ => ?_)))
    exact ret_same h
end Go.Proofs.Ytfjhjfddgdokgaa
namespace Go.Proofs.Ytfjhjfddgdokgaa
set_option linter.all false
open Go Go.RowKit
set_option maxRecDepth 100000
variable (w0 : World) (H : AHeap) (K : Value → AHeap → Prop)
def boxOk (p : Int) (xs : List Int) : Bool := decide (1 ≤ p) && decide (p ≤ 4) && decide ((xs.length : Int) ≤ p) && words xs
theorem boxValid_ok (p : Int) (A : Option Addr) (c : Nat) (xs : List Int) (hx : Fl H A (ints xs)) (hn : xs.length ≤ 1048576) (h : K (.bool (boxOk p xs)) H) : ACalls Try.prog w0 148 [.agg #[.int .i64 p, .slice A xs.length c]] H K := by
  refine acalls_of_sx mix Try.func148 of148 (by simp [ir148]) ?_; rw [ir148]; (try delta qT qI qC qO qM qG)
  repeat' (first | simp -implicitDefEqProofs only [zG1,zG2,zG3,zG4,zG5,zG6,zG7,eq_self,resV,rval,X.val,binv,fillL,setR,↓reduceIte,Nat.reduceEqDiff,Nat.reduceAdd,Nat.reduceMul,Nat.reduceLeDiff,Nat.reduceLT,Nat.reduceSub,reduceCtorEq,zGp] | ((with_reducible refine rows_intro (fun _ hb => ?_)); try simp only [set_none, ne_eq] at hb) | ((with_reducible refine new_intro (fun _ hb => ?_)); try simp only [set_none, ne_eq] at hb) | (with_reducible refine draw_same ?_) | ((with_reducible refine gd_split ?_ (fun _ => ?_) (fun _ => ?_)); exact rfl) | ((with_reducible refine td_split ?_ (fun _ => ?_) (fun _ => ?_)); exact rfl) | (with_reducible refine c_split (fun _ => ?_) (fun _ => ?_)) | (with_reducible refine areWords_ok _ _ _ A c xs (hx.le ((AHeap.le.refl H).fresh ‹H _ = none› _)) hn ?_))
  all_goals refine ⟨H, (AHeap.le.refl H).fresh (by assumption) _, ?_⟩
  all_goals (try simp only [beq_iff_eq, beq_eq_false_iff_ne, bne_iff_ne, bne_eq_false_iff_eq, decide_eq_true_eq, decide_eq_false_iff_not, ne_eq, Bool.not_eq_true, Bool.not_eq_false, Bool.not_eq_eq_eq_not, Bool.not_true, Bool.not_false, Int.not_lt, Int.not_le, ge_iff_le, gt_iff_lt] at *)
  all_goals refine kb h ?_
  all_goals simp only [boxOk]
  all_goals first | (simp [*]; done) | (simp [*]; omega) | (simp; omega) | (simp; intros; omega)
theorem boxValidS_ok (p : Int) (A : Option Addr) (c : Nat) (xs : List Int) (hx : Fl H A (ints xs)) (hn : xs.length ≤ 1048576) (h : K (.bool (boxOk p xs)) H) : ACalls Try.prog w0 141 [.agg #[.int .i64 p, .slice A xs.length c]] H K := by
  refine acalls_of_sx mix Try.func141 of141 (by simp [ir141]) ?_; rw [ir141]; (try delta qT qI qC qO qM qG)
  repeat' (first | simp -implicitDefEqProofs only [zG1,zG2,zG3,zG4,zG5,zG6,zG7,eq_self,resV,rval,X.val,binv,fillL,setR,↓reduceIte,Nat.reduceEqDiff,Nat.reduceAdd,Nat.reduceMul,Nat.reduceLeDiff,Nat.reduceLT,Nat.reduceSub,reduceCtorEq,zGp] | ((with_reducible refine rows_intro (fun _ hb => ?_)); try simp only [set_none, ne_eq] at hb) | ((with_reducible refine new_intro (fun _ hb => ?_)); try simp only [set_none, ne_eq] at hb) | (with_reducible refine draw_same ?_) | ((with_reducible refine gd_split ?_ (fun _ => ?_) (fun _ => ?_)); exact rfl) | ((with_reducible refine td_split ?_ (fun _ => ?_) (fun _ => ?_)); exact rfl) | (with_reducible refine c_split (fun _ => ?_) (fun _ => ?_)) | (with_reducible refine l6In_ok _ _ _ _ _ _ ?_) | (with_reducible refine l4WordsL_ok _ _ _ A c xs (hx.le ((AHeap.le.refl H).fresh ‹H _ = none› _)) hn ?_))
  all_goals refine ⟨H, (AHeap.le.refl H).fresh (by assumption) _, ?_⟩
  all_goals (try simp only [beq_iff_eq, beq_eq_false_iff_ne, bne_iff_ne, bne_eq_false_iff_eq, decide_eq_true_eq, decide_eq_false_iff_not, ne_eq, Bool.not_eq_true, Bool.not_eq_false, Bool.not_eq_eq_eq_not, Bool.not_true, Bool.not_false, Int.not_lt, Int.not_le, ge_iff_le, gt_iff_lt] at *)
  all_goals refine kb h ?_
  all_goals simp only [boxOk]
  all_goals first | (simp [*]; done) | (simp [*]; omega) | (simp; omega) | (simp; intros; omega)
end Go.Proofs.Ytfjhjfddgdokgaa
namespace Go.Proofs.Ytfjhjfddgdokgaa
set_option linter.all false
open Go Go.RowKit
set_option maxRecDepth 100000
variable (w0 : World) (H : AHeap) (K : Value → AHeap → Prop)
def boxesOk (ts : List (List Int × Int)) : Bool := (ts.all fun t => boxOk t.2 t.1) && decide ((ts.length : Int) ≤ 3)
theorem l15Boxes_ok (A : Option Addr) (c : Nat) (ts : List (List Int × Int)) (hx : FP H A 1 0 ts) (hn : ts.length ≤ 1048576) (hL : ∀ x ∈ ts, x.1.length ≤ 1048576) (h : K (.bool (boxesOk ts)) H) :
    ACalls Try.prog w0 85 [.slice A ts.length c] H K := by
  refine acalls_of_sx mix Try.func85 of85 (by simp [ir85]) ?_; rw [ir85]; (try delta qT qI qC qO qM qG)
  repeat' (first | simp -implicitDefEqProofs only [zG1,zG2,zG3,zG4,zG5,zG6,zG7,eq_self,resV,rval,X.val,binv,fillL,setR,↓reduceIte,Nat.reduceEqDiff,Nat.reduceAdd,Nat.reduceMul,Nat.reduceLeDiff,Nat.reduceLT,Nat.reduceSub,reduceCtorEq,zGp] | ((with_reducible refine rows_intro (fun _ hb => ?_)); try simp only [set_none, ne_eq] at hb) | ((with_reducible refine new_intro (fun _ hb => ?_)); try simp only [set_none, ne_eq] at hb) | (with_reducible refine draw_same ?_) | ((with_reducible refine gd_split ?_ (fun _ => ?_) (fun _ => ?_)); exact rfl) | ((with_reducible refine td_split ?_ (fun _ => ?_) (fun _ => ?_)); exact rfl) | (with_reducible refine c_split (fun _ => ?_) (fun _ => ?_)))
  refine for_rule ts.length (fun k fr C => C = H ∧ (∀ i (hi : i < ts.length), i < k → boxOk ts[i].2 ts[i].1 = true) ∧ fr 0 = .slice A ts.length c ∧ fr 3 = .int .i64 k)
    ⟨rfl, fun i _ hi => absurd hi (Nat.not_lt_zero _), (by first | rfl | (simp only [put_at, ↓reduceIte, Nat.reduceEqDiff]; first | done | rfl | assumption) | simp [put_at, *]), (by first | rfl | (simp only [put_at, ↓reduceIte, Nat.reduceEqDiff]; first | done | rfl | assumption) | simp [put_at, *])⟩ ?_ ?_
  · rintro k fr C hk ⟨rfl, hw, f0, f3⟩ N hN
    have g0 := lt_dec hk
    have g1 := rng hk
    have g2 := up1 hk (by omega)
    obtain ⟨q1, A', c', q2, fl⟩ := hx.rd1 hk
    have hb := hL _ (List.getElem_mem hk)
    cases hv : boxOk ts[k].2 ts[k].1 with
    | true =>
      repeat' (first | simp -implicitDefEqProofs only [zG1,zG2,zG3,zG4,zG5,zG6,zG7,eq_self,resV,rval,X.val,binv,fillL,setR,↓reduceIte,Nat.reduceEqDiff,Nat.reduceAdd,Nat.reduceMul,Nat.reduceLeDiff,Nat.reduceLT,Nat.reduceSub,reduceCtorEq,zGp, f0, f3, g0, g1, g2, q1, q2, hv] | ((with_reducible refine rows_intro (fun _ hb => ?_)); try simp only [set_none, ne_eq] at hb) | ((with_reducible refine new_intro (fun _ hb => ?_)); try simp only [set_none, ne_eq] at hb) | (with_reducible refine draw_same ?_) | ((with_reducible refine gd_split ?_ (fun _ => ?_) (fun _ => ?_)); exact rfl) | ((with_reducible refine td_split ?_ (fun _ => ?_) (fun _ => ?_)); exact rfl) | (with_reducible refine c_split (fun _ => ?_) (fun _ => ?_)) | (with_reducible refine boxValidS_ok _ _ _ _ A' c' ts[k].1 fl hb ?_))
      refine hN _ _ _ (.refl _) ⟨rfl, fun i hi hik => ?_, (by first | rfl | (simp only [put_at, ↓reduceIte, Nat.reduceEqDiff]; first | done | rfl | assumption) | simp [put_at, *]), (by first | rfl | (simp only [put_at, ↓reduceIte, Nat.reduceEqDiff]; first | done | rfl | assumption) | simp [put_at, *])⟩
      rcases Nat.lt_succ_iff_lt_or_eq.1 hik with hik | rfl
      · exact hw i hi hik
      · exact hv
    | false =>
      have e : boxesOk ts = false := by
        have : (ts.all fun t => boxOk t.2 t.1) = false := by
          rw [List.all_eq_false]
          exact ⟨ts[k], List.getElem_mem hk, by rw [hv]; simp⟩
        rw [boxesOk, this]; rfl
      rw [e] at h
      repeat' (first | simp -implicitDefEqProofs only [zG1,zG2,zG3,zG4,zG5,zG6,zG7,eq_self,resV,rval,X.val,binv,fillL,setR,↓reduceIte,Nat.reduceEqDiff,Nat.reduceAdd,Nat.reduceMul,Nat.reduceLeDiff,Nat.reduceLT,Nat.reduceSub,reduceCtorEq,zGp, f0, f3, g0, g1, g2, q1, q2, hv] | ((with_reducible refine rows_intro (fun _ hb => ?_)); try simp only [set_none, ne_eq] at hb) | ((with_reducible refine new_intro (fun _ hb => ?_)); try simp only [set_none, ne_eq] at hb) | (with_reducible refine draw_same ?_) | ((with_reducible refine gd_split ?_ (fun _ => ?_) (fun _ => ?_)); exact rfl) | ((with_reducible refine td_split ?_ (fun _ => ?_) (fun _ => ?_)); exact rfl) | (with_reducible refine c_split (fun _ => ?_) (fun _ => ?_)) | (with_reducible refine boxValidS_ok _ _ _ _ A' c' ts[k].1 fl hb ?_))
      exact ret_same h
  · rintro fr C ⟨rfl, hw, f0, f3⟩ N
    have g0 : decide ((ts.length : Int) < (ts.length : Int)) = false := by simp
    have e : boxesOk ts = decide ((ts.length : Int) ≤ 3) := by
      have : (ts.all fun t => boxOk t.2 t.1) = true := by
        rw [List.all_eq_true]
        intro q hq
        obtain ⟨i, hi, rfl⟩ := List.getElem_of_mem hq
        exact hw i hi hi
      rw [boxesOk, this, Bool.true_and]
    rw [e] at h
    repeat' (first | simp -implicitDefEqProofs only [zG1,zG2,zG3,zG4,zG5,zG6,zG7,eq_self,resV,rval,X.val,binv,fillL,setR,↓reduceIte,Nat.reduceEqDiff,Nat.reduceAdd,Nat.reduceMul,Nat.reduceLeDiff,Nat.reduceLT,Nat.reduceSub,reduceCtorEq,zGp, f0, f3, g0] | ((with_reducible refine rows_intro (fun _ hb => ?_)); try simp only [set_none, ne_eq] at hb) | ((with_reducible refine new_intro (fun _ hb => ?_)); try simp only [set_none, ne_eq] at hb) | (with_reducible refine draw_same ?_) | ((with_reducible refine gd_split ?_ (fun _ => ?_) (fun _ => ?_)); exact rfl) | ((with_reducible refine td_split ?_ (fun _ => ?_) (fun _ => ?_)); exact rfl) | (with_reducible refine c_split (fun _ => ?_) (fun _ => ?_)))
    exact ret_same h
end Go.Proofs.Ytfjhjfddgdokgaa
namespace Go.Proofs.Ytfjhjfddgdokgaa
set_option linter.all false
open Go Go.RowKit
set_option maxRecDepth 100000
variable (w0 : World) (H : AHeap) (K : Value → AHeap → Prop)
theorem boxesValid_ok (A : Option Addr) (c : Nat) (ts : List (List Int × Int)) (hx : FP H A 1 0 ts) (hn : ts.length ≤ 1048576) (hL : ∀ x ∈ ts, x.1.length ≤ 1048576) (h : K (.bool (boxesOk ts)) H) :
    ACalls Try.prog w0 92 [.slice A ts.length c] H K := by
  refine acalls_of_sx mix Try.func92 of92 (by simp [ir92]) ?_; rw [ir92]; (try delta qT qI qC qO qM qG)
  repeat' (first | simp -implicitDefEqProofs only [zG1,zG2,zG3,zG4,zG5,zG6,zG7,eq_self,resV,rval,X.val,binv,fillL,setR,↓reduceIte,Nat.reduceEqDiff,Nat.reduceAdd,Nat.reduceMul,Nat.reduceLeDiff,Nat.reduceLT,Nat.reduceSub,reduceCtorEq,zGp] | ((with_reducible refine rows_intro (fun _ hb => ?_)); try simp only [set_none, ne_eq] at hb) | ((with_reducible refine new_intro (fun _ hb => ?_)); try simp only [set_none, ne_eq] at hb) | (with_reducible refine draw_same ?_) | ((with_reducible refine gd_split ?_ (fun _ => ?_) (fun _ => ?_)); exact rfl) | ((with_reducible refine td_split ?_ (fun _ => ?_) (fun _ => ?_)); exact rfl) | (with_reducible refine c_split (fun _ => ?_) (fun _ => ?_)))
  refine for_rule ts.length (fun k fr C => C = H ∧ (∀ i (hi : i < ts.length), i < k → boxOk ts[i].2 ts[i].1 = true) ∧ fr 0 = .slice A ts.length c ∧ fr 5 = .slice A ts.length c ∧ fr 6 = .int .i64 ts.length ∧ fr 7 = .int .i64 k)
    ⟨rfl, fun i _ hi => absurd hi (Nat.not_lt_zero _), (by first | rfl | (simp only [put_at, ↓reduceIte, Nat.reduceEqDiff]; first | done | rfl | assumption) | simp [put_at, *]), (by first | rfl | (simp only [put_at, ↓reduceIte, Nat.reduceEqDiff]; first | done | rfl | assumption) | simp [put_at, *]), (by first | rfl | (simp only [put_at, ↓reduceIte, Nat.reduceEqDiff]; first | done | rfl | assumption) | simp [put_at, *]), (by first | rfl | (simp only [put_at, ↓reduceIte, Nat.reduceEqDiff]; first | done | rfl | assumption) | simp [put_at, *])⟩ ?_ ?_
  · rintro k fr C hk ⟨rfl, hw, f0, f5, f6, f7⟩ N hN
    have g0 := lt_dec hk
    have g1 := rng hk
    have g2 := up1 hk (by omega)
    obtain ⟨q1, A', c', q2, fl⟩ := hx.rd1 hk
    have hbl := hL _ (List.getElem_mem hk)
    cases hv : boxOk ts[k].2 ts[k].1 with
    | true =>
      repeat' (first | simp -implicitDefEqProofs only [zG1,zG2,zG3,zG4,zG5,zG6,zG7,eq_self,resV,rval,X.val,binv,fillL,setR,↓reduceIte,Nat.reduceEqDiff,Nat.reduceAdd,Nat.reduceMul,Nat.reduceLeDiff,Nat.reduceLT,Nat.reduceSub,reduceCtorEq,zGp, f0, f5, f6, f7, g0, g1, g2, q1, q2, hv] | ((with_reducible refine rows_intro (fun _ hb => ?_)); try simp only [set_none, ne_eq] at hb) | ((with_reducible refine new_intro (fun _ hb => ?_)); try simp only [set_none, ne_eq] at hb) | (with_reducible refine draw_same ?_) | ((with_reducible refine gd_split ?_ (fun _ => ?_) (fun _ => ?_)); exact rfl) | ((with_reducible refine td_split ?_ (fun _ => ?_) (fun _ => ?_)); exact rfl) | (with_reducible refine c_split (fun _ => ?_) (fun _ => ?_)) | (with_reducible refine boxValid_ok _ _ _ _ A' c' ts[k].1 (fl.le ((AHeap.le.refl _).fresh (by assumption) _)) hbl ?_))
      refine hN _ _ C ((AHeap.le.refl _).fresh (by assumption) _) ⟨rfl, fun i hi hik => ?_, (by first | rfl | (simp only [put_at, ↓reduceIte, Nat.reduceEqDiff]; first | done | rfl | assumption) | simp [put_at, *]), (by first | rfl | (simp only [put_at, ↓reduceIte, Nat.reduceEqDiff]; first | done | rfl | assumption) | simp [put_at, *]), (by first | rfl | (simp only [put_at, ↓reduceIte, Nat.reduceEqDiff]; first | done | rfl | assumption) | simp [put_at, *]), (by first | rfl | (simp only [put_at, ↓reduceIte, Nat.reduceEqDiff]; first | done | rfl | assumption) | simp [put_at, *])⟩
      rcases Nat.lt_succ_iff_lt_or_eq.1 hik with hik | rfl
      · exact hw i hi hik
      · exact hv
    | false =>
      have e : boxesOk ts = false := by
        have : (ts.all fun t => boxOk t.2 t.1) = false := by
          rw [List.all_eq_false]
          exact ⟨ts[k], List.getElem_mem hk, by rw [hv]; simp⟩
        rw [boxesOk, this]; rfl
      rw [e] at h
      repeat' (first | simp -implicitDefEqProofs only [zG1,zG2,zG3,zG4,zG5,zG6,zG7,eq_self,resV,rval,X.val,binv,fillL,setR,↓reduceIte,Nat.reduceEqDiff,Nat.reduceAdd,Nat.reduceMul,Nat.reduceLeDiff,Nat.reduceLT,Nat.reduceSub,reduceCtorEq,zGp, f0, f5, f6, f7, g0, g1, g2, q1, q2, hv] | ((with_reducible refine rows_intro (fun _ hb => ?_)); try simp only [set_none, ne_eq] at hb) | ((with_reducible refine new_intro (fun _ hb => ?_)); try simp only [set_none, ne_eq] at hb) | (with_reducible refine draw_same ?_) | ((with_reducible refine gd_split ?_ (fun _ => ?_) (fun _ => ?_)); exact rfl) | ((with_reducible refine td_split ?_ (fun _ => ?_) (fun _ => ?_)); exact rfl) | (with_reducible refine c_split (fun _ => ?_) (fun _ => ?_)) | (with_reducible refine boxValid_ok _ _ _ _ A' c' ts[k].1 (fl.le ((AHeap.le.refl _).fresh (by assumption) _)) hbl ?_))
      exact ⟨C, (AHeap.le.refl _).fresh (by assumption) _, h⟩
  · rintro fr C ⟨rfl, hw, f0, f5, f6, f7⟩ N
    have g0 : decide ((ts.length : Int) < (ts.length : Int)) = false := by simp
    have e : boxesOk ts = decide ((ts.length : Int) ≤ 3) := by
      have : (ts.all fun t => boxOk t.2 t.1) = true := by
        rw [List.all_eq_true]
        intro q hq
        obtain ⟨i, hi, rfl⟩ := List.getElem_of_mem hq
        exact hw i hi hi
      rw [boxesOk, this, Bool.true_and]
    rw [e] at h
    repeat' (first | simp -implicitDefEqProofs only [zG1,zG2,zG3,zG4,zG5,zG6,zG7,eq_self,resV,rval,X.val,binv,fillL,setR,↓reduceIte,Nat.reduceEqDiff,Nat.reduceAdd,Nat.reduceMul,Nat.reduceLeDiff,Nat.reduceLT,Nat.reduceSub,reduceCtorEq,zGp, f0, f5, f6, f7, g0] | ((with_reducible refine rows_intro (fun _ hb => ?_)); try simp only [set_none, ne_eq] at hb) | ((with_reducible refine new_intro (fun _ hb => ?_)); try simp only [set_none, ne_eq] at hb) | (with_reducible refine draw_same ?_) | ((with_reducible refine gd_split ?_ (fun _ => ?_) (fun _ => ?_)); exact rfl) | ((with_reducible refine td_split ?_ (fun _ => ?_) (fun _ => ?_)); exact rfl) | (with_reducible refine c_split (fun _ => ?_) (fun _ => ?_)))
    exact ret_same h
end Go.Proofs.Ytfjhjfddgdokgaa
namespace Go.Proofs.Ytfjhjfddgdokgaa
set_option linter.all false
open Go Go.RowKit
set_option maxRecDepth 100000
variable (w0 : World) (H : AHeap) (K : Value → AHeap → Prop)
def turnsOk (n turn last : Int) (log : List Int) : Bool := decide (1 ≤ n) && decide (n ≤ 3) && decide (0 ≤ turn) && decide (turn < n) && decide (0 ≤ last) && decide (last ≤ n) && words log
theorem turnsValid_ok (n turn last : Int) (A : Option Addr) (c : Nat) (log : List Int) (hx : Fl H A (ints log)) (hn : log.length ≤ 1048576) (h : K (.bool (turnsOk n turn last log)) H) :
    ACalls Try.prog w0 91 [.int .i64 n, .int .i64 turn, .int .i64 last, .slice A log.length c] H K := by
  refine acalls_of_sx mix Try.func91 of91 (by simp [ir91]) ?_; rw [ir91]; (try delta qT qI qC qO qM qG)
  repeat' (first | simp -implicitDefEqProofs only [zG1,zG2,zG3,zG4,zG5,zG6,zG7,eq_self,resV,rval,X.val,binv,fillL,setR,↓reduceIte,Nat.reduceEqDiff,Nat.reduceAdd,Nat.reduceMul,Nat.reduceLeDiff,Nat.reduceLT,Nat.reduceSub,reduceCtorEq,zGp] | ((with_reducible refine rows_intro (fun _ hb => ?_)); try simp only [set_none, ne_eq] at hb) | ((with_reducible refine new_intro (fun _ hb => ?_)); try simp only [set_none, ne_eq] at hb) | (with_reducible refine draw_same ?_) | ((with_reducible refine gd_split ?_ (fun _ => ?_) (fun _ => ?_)); exact rfl) | ((with_reducible refine td_split ?_ (fun _ => ?_) (fun _ => ?_)); exact rfl) | (with_reducible refine c_split (fun _ => ?_) (fun _ => ?_)) | (with_reducible refine areWords_ok _ _ _ A c log hx hn ?_))
  all_goals (try simp only [beq_iff_eq, beq_eq_false_iff_ne, bne_iff_ne, bne_eq_false_iff_eq, decide_eq_true_eq, decide_eq_false_iff_not, ne_eq, Bool.not_eq_true, Bool.not_eq_false, Bool.not_eq_eq_eq_not, Bool.not_true, Bool.not_false, Int.not_lt, Int.not_le, ge_iff_le, gt_iff_lt] at *)
  all_goals refine ret_same (kb h ?_)
  all_goals simp only [turnsOk]
  all_goals first | (simp [*]; done) | (simp [*]; omega) | (simp; omega) | (simp; intros; omega)
end Go.Proofs.Ytfjhjfddgdokgaa
namespace Go.Proofs.Ytfjhjfddgdokgaa
set_option linter.all false
open Go Go.RowKit
set_option maxRecDepth 100000
variable (w0 : World)
abbrev crc (c : Cr) (A0 : Option Addr) (c0 : Nat) (A1 : Option Addr) (c1 : Nat) (A2 : Option Addr) (c2 : Nat) (A5 : Option Addr) (c5 : Nat) : List Value :=
  [.slice A0 c.codes.length c0, .slice A1 c.threads.length c1, .slice A2 c.boxes.length c2, .int .i64 c.turn, .int .i64 c.last, .slice A5 c.log.length c5]
abbrev crv (c : Cr) (A0 : Option Addr) (c0 : Nat) (A1 : Option Addr) (c1 : Nat) (A2 : Option Addr) (c2 : Nat) (A5 : Option Addr) (c5 : Nat) : Value :=
  .agg #[.slice A0 c.codes.length c0, .slice A1 c.threads.length c1, .slice A2 c.boxes.length c2, .int .i64 c.turn, .int .i64 c.last, .slice A5 c.log.length c5]
structure CrR (H : AHeap) (c : Cr) (A0 A1 A2 A5 : Option Addr) : Prop where
  f0 : FR H A0 c.codes
  f1 : FP H A1 0 1 c.threads
  f2 : FP H A2 1 0 c.boxes
  f5 : Fl H A5 (ints c.log)
theorem CrR.le {H H' : AHeap} {c : Cr} {A0 A1 A2 A5 : Option Addr} (h : CrR H c A0 A1 A2 A5) (l : AHeap.le H H') : CrR H' c A0 A1 A2 A5 := ⟨h.f0.le l, h.f1.le l, h.f2.le l, h.f5.le l⟩
/-- All its rows are at most so long. -/
structure CrB (m : Nat) (c : Cr) : Prop where
  n0 : c.codes.length ≤ m
  m0 : ∀ x ∈ c.codes, x.length ≤ m
  n1 : c.threads.length ≤ m
  m1 : ∀ x ∈ c.threads, x.1.length ≤ m
  n2 : c.boxes.length ≤ m
  m2 : ∀ x ∈ c.boxes, x.1.length ≤ m
  n5 : c.log.length ≤ m
def Cr.size (c : Cr) : Nat := (c.codes.length + sumL c.codes) + (c.threads.length + sumP c.threads) + (c.boxes.length + sumP c.boxes) + c.log.length
theorem sumL_at {L : List (List Qd)} {x : List Qd} (h : x ∈ L) : x.length ≤ sumL L := by
  obtain ⟨i, hi, rfl⟩ := List.getElem_of_mem h
  have := sumL_step hi
  have := sumL_le L (i + 1)
  omega
theorem sumP_at {L : List (List Int × Int)} {x : List Int × Int} (h : x ∈ L) : x.1.length ≤ sumP L := by
  obtain ⟨i, hi, rfl⟩ := List.getElem_of_mem h
  have := sumP_step hi
  have := sumP_le L (i + 1)
  omega
theorem CrB.of_size {m : Nat} {c : Cr} (h : c.size ≤ m) : CrB m c := by
  simp only [Cr.size] at h
  exact ⟨by omega, fun x hx => by have := sumL_at hx; omega, by omega, fun x hx => by have := sumP_at hx; omega, by omega, fun x hx => by have := sumP_at hx; omega, by omega⟩
section
variable (H : AHeap) (K : Value → AHeap → Prop) (c : Cr) (A0 : Option Addr) (c0 : Nat) (A1 : Option Addr) (c1 : Nat) (A2 : Option Addr) (c2 : Nat) (A5 : Option Addr) (c5 : Nat)
theorem kn6 {C : AHeap} {x : Nat} {t : TypeId} {o : Bool} {n : Nat} {v0 v1 v2 v3 v4 v5 : Value} (k : Kn C x ⟨[v0, v1, v2, v3, v4, v5], o, t, n⟩) :
    C.cell (some ⟨x, 0, none⟩) = some v0 ∧ C.cell (some ⟨x, 1, none⟩) = some v1 ∧ C.cell (some ⟨x, 2, none⟩) = some v2 ∧ C.cell (some ⟨x, 3, none⟩) = some v3 ∧ C.cell (some ⟨x, 4, none⟩) = some v4 ∧ C.cell (some ⟨x, 5, none⟩) = some v5 :=
  ⟨k.cell (j := 0) rfl, k.cell (j := 1) rfl, k.cell (j := 2) rfl, k.cell (j := 3) rfl, k.cell (j := 4) rfl, k.cell (j := 5) rfl⟩
theorem szCrew_ok (hc : CrR H c A0 A1 A2 A5) (hb : CrB maxLen c) (l : Int) (h2 : 0 ≤ l) (h3 : l ≤ 4611686018427387904) (h : K (.int .i64 (if l < c.size then -1 else l - c.size)) H) : ACalls Try.prog w0 32 [crv c A0 c0 A1 c1 A2 c2 A5 c5, .int .i64 l] H K := by
  have d1 : decide ((-1 : Int) < 0) = true := by decide
  refine acalls_of_sx mix Try.func32 of32 (by simp [ir32]) ?_; rw [ir32]; (try delta qT qI qC qO qM qG)
  repeat' (first | simp -implicitDefEqProofs only [zG1,zG2,zG3,zG4,zG5,zG6,zG7,eq_self,resV,rval,X.val,binv,fillL,setR,↓reduceIte,Nat.reduceEqDiff,Nat.reduceAdd,Nat.reduceMul,Nat.reduceLeDiff,Nat.reduceLT,Nat.reduceSub,reduceCtorEq,zGq])
  refine new_intro (fun x2 hx2 => ?_)
  have l1 := (AHeap.le.refl H).fresh hx2 ⟨crc c A0 c0 A1 c1 A2 c2 A5 c5, true, 56, 6⟩
  have k1 := Kn.same H x2 ⟨crc c A0 c0 A1 c1 A2 c2 A5 c5, true, 56, 6⟩
  generalize H.set x2 _ = C at l1 k1 ⊢
  have q := kn6 k1
  have hc' := hc.le l1
  by_cases e0 : l < ((c.codes.length : Int) + (sumL c.codes : Int))
  · have e0' := eq_true e0
    repeat' (first | simp -implicitDefEqProofs only [zG1,zG2,zG3,zG4,zG5,zG6,zG7,eq_self,resV,rval,X.val,binv,fillL,setR,↓reduceIte,Nat.reduceEqDiff,Nat.reduceAdd,Nat.reduceMul,Nat.reduceLeDiff,Nat.reduceLT,Nat.reduceSub,reduceCtorEq,zGq, q, d1, e0', if_true] | (with_reducible refine szQuadSS_ok _ _ _ A0 c0 _ hc'.f0 hb.n0 hb.m0 l h2 h3 ?_))
    exact ⟨H, l1, ki h (if_pos (show l < (c.size : Int) by simp only [Cr.size]; omega)).symm⟩
  have e0' := eq_false e0
  have dA : decide (l - ((c.codes.length : Int) + (sumL c.codes : Int)) < 0) = false := by simp; omega
  generalize hL1 : l - ((c.codes.length : Int) + (sumL c.codes : Int)) = lA at dA
  by_cases e1 : lA < ((c.threads.length : Int) + (sumP c.threads : Int))
  · have e1' := eq_true e1
    repeat' (first | simp -implicitDefEqProofs only [zG1,zG2,zG3,zG4,zG5,zG6,zG7,eq_self,resV,rval,X.val,binv,fillL,setR,↓reduceIte,Nat.reduceEqDiff,Nat.reduceAdd,Nat.reduceMul,Nat.reduceLeDiff,Nat.reduceLT,Nat.reduceSub,reduceCtorEq,zGq, q, d1, dA, hL1, e0', e1', if_true, if_false] | (with_reducible refine szQuadSS_ok _ _ _ A0 c0 _ hc'.f0 hb.n0 hb.m0 l h2 h3 ?_) | (with_reducible refine szThreadS_ok _ _ _ A1 c1 _ hc'.f1 hb.n1 hb.m1 lA (by omega) (by omega) ?_))
    exact ⟨H, l1, ki h (if_pos (show l < (c.size : Int) by simp only [Cr.size]; omega)).symm⟩
  have e1' := eq_false e1
  have dB : decide (lA - ((c.threads.length : Int) + (sumP c.threads : Int)) < 0) = false := by simp; omega
  generalize hL2 : lA - ((c.threads.length : Int) + (sumP c.threads : Int)) = lB at dB
  by_cases e2 : lB < ((c.boxes.length : Int) + (sumP c.boxes : Int))
  · have e2' := eq_true e2
    repeat' (first | simp -implicitDefEqProofs only [zG1,zG2,zG3,zG4,zG5,zG6,zG7,eq_self,resV,rval,X.val,binv,fillL,setR,↓reduceIte,Nat.reduceEqDiff,Nat.reduceAdd,Nat.reduceMul,Nat.reduceLeDiff,Nat.reduceLT,Nat.reduceSub,reduceCtorEq,zGq, q, d1, dA, dB, hL1, hL2, e0', e1', e2', if_true, if_false] | (with_reducible refine szQuadSS_ok _ _ _ A0 c0 _ hc'.f0 hb.n0 hb.m0 l h2 h3 ?_) | (with_reducible refine szThreadS_ok _ _ _ A1 c1 _ hc'.f1 hb.n1 hb.m1 lA (by omega) (by omega) ?_) | (with_reducible refine szBoxS_ok _ _ _ A2 c2 _ hc'.f2 hb.n2 hb.m2 lB (by omega) (by omega) ?_))
    exact ⟨H, l1, ki h (if_pos (show l < (c.size : Int) by simp only [Cr.size]; omega)).symm⟩
  have e2' := eq_false e2
  have dC : decide (lB - ((c.boxes.length : Int) + (sumP c.boxes : Int)) < 0) = false := by simp; omega
  generalize hL3 : lB - ((c.boxes.length : Int) + (sumP c.boxes : Int)) = lC at dC
  by_cases e3 : lC < (c.log.length : Int)
  · have e3' := eq_true e3
    repeat' (first | simp -implicitDefEqProofs only [zG1,zG2,zG3,zG4,zG5,zG6,zG7,eq_self,resV,rval,X.val,binv,fillL,setR,↓reduceIte,Nat.reduceEqDiff,Nat.reduceAdd,Nat.reduceMul,Nat.reduceLeDiff,Nat.reduceLT,Nat.reduceSub,reduceCtorEq,zGq, q, d1, dA, dB, dC, hL1, hL2, hL3, e0', e1', e2', e3', if_true, if_false] | (with_reducible refine szQuadSS_ok _ _ _ A0 c0 _ hc'.f0 hb.n0 hb.m0 l h2 h3 ?_) | (with_reducible refine szThreadS_ok _ _ _ A1 c1 _ hc'.f1 hb.n1 hb.m1 lA (by omega) (by omega) ?_) | (with_reducible refine szBoxS_ok _ _ _ A2 c2 _ hc'.f2 hb.n2 hb.m2 lB (by omega) (by omega) ?_) | (with_reducible refine szIntS_ok _ _ _ A5 _ c5 lC hb.n5 (by omega) (by omega) ?_))
    exact ⟨H, l1, ki h (if_pos (show l < (c.size : Int) by simp only [Cr.size]; omega)).symm⟩
  have e3' := eq_false e3
  have dD : decide (lC - (c.log.length : Int) < 0) = false := by simp; omega
  have hD : lC - (c.log.length : Int) = l - (((c.codes.length + sumL c.codes) + (c.threads.length + sumP c.threads) + (c.boxes.length + sumP c.boxes) + c.log.length : Nat) : Int) := by omega
  repeat' (first | simp -implicitDefEqProofs only [zG1,zG2,zG3,zG4,zG5,zG6,zG7,eq_self,resV,rval,X.val,binv,fillL,setR,↓reduceIte,Nat.reduceEqDiff,Nat.reduceAdd,Nat.reduceMul,Nat.reduceLeDiff,Nat.reduceLT,Nat.reduceSub,reduceCtorEq,zGq, q, dA, dB, dC, dD, hL1, hL2, hL3, e0', e1', e2', e3', if_false] | (with_reducible refine szQuadSS_ok _ _ _ A0 c0 _ hc'.f0 hb.n0 hb.m0 l h2 h3 ?_) | (with_reducible refine szThreadS_ok _ _ _ A1 c1 _ hc'.f1 hb.n1 hb.m1 lA (by omega) (by omega) ?_) | (with_reducible refine szBoxS_ok _ _ _ A2 c2 _ hc'.f2 hb.n2 hb.m2 lB (by omega) (by omega) ?_) | (with_reducible refine szIntS_ok _ _ _ A5 _ c5 lC hb.n5 (by omega) (by omega) ?_))
  exact ⟨H, l1, ki h ((if_neg (show ¬ l < (c.size : Int) by simp only [Cr.size]; omega)).trans (by simp only [Cr.size]; omega)).symm⟩
theorem eqCrew_ok (B0 : Option Addr) (e0 : Nat) (B1 : Option Addr) (e1 : Nat) (B2 : Option Addr) (e2 : Nat) (B5 : Option Addr) (e5 : Nat) (hc : CrR H c A0 A1 A2 A5) (hd : CrR H c B0 B1 B2 B5) (hb : CrB 1048576 c) (h : K (.bool true) H) :
    ACalls Try.prog w0 36 [crv c A0 c0 A1 c1 A2 c2 A5 c5, crv c B0 e0 B1 e1 B2 e2 B5 e5] H K := by
  refine acalls_of_sx mix Try.func36 of36 (by simp [ir36]) ?_; rw [ir36]; (try delta qT qI qC qO qM qG)
  repeat' (first | simp -implicitDefEqProofs only [zG1,zG2,zG3,zG4,zG5,zG6,zG7,eq_self,resV,rval,X.val,binv,fillL,setR,↓reduceIte,Nat.reduceEqDiff,Nat.reduceAdd,Nat.reduceMul,Nat.reduceLeDiff,Nat.reduceLT,Nat.reduceSub,reduceCtorEq,zGq])
  refine new_intro (fun x2 hx2 => ?_)
  repeat' (first | simp -implicitDefEqProofs only [zG1,zG2,zG3,zG4,zG5,zG6,zG7,eq_self,resV,rval,X.val,binv,fillL,setR,↓reduceIte,Nat.reduceEqDiff,Nat.reduceAdd,Nat.reduceMul,Nat.reduceLeDiff,Nat.reduceLT,Nat.reduceSub,reduceCtorEq,zGq])
  refine new_intro (fun x3 hx3 => ?_)
  simp only [set_none, ne_eq] at hx3
  have l1 := ((AHeap.le.refl H).fresh hx2 ⟨crc c A0 c0 A1 c1 A2 c2 A5 c5, true, 62, 6⟩).fresh (set_none.2 hx3) ⟨crc c B0 e0 B1 e1 B2 e2 B5 e5, true, 62, 6⟩
  have k2 : Kn ((H.set x2 ⟨crc c A0 c0 A1 c1 A2 c2 A5 c5, true, 62, 6⟩).set x3 ⟨crc c B0 e0 B1 e1 B2 e2 B5 e5, true, 62, 6⟩) x2 ⟨crc c A0 c0 A1 c1 A2 c2 A5 c5, true, 62, 6⟩ := (Kn.same _ _ _).set (fun e => hx3.1 e.symm) _
  have k3 := Kn.same (H.set x2 ⟨crc c A0 c0 A1 c1 A2 c2 A5 c5, true, 62, 6⟩) x3 ⟨crc c B0 e0 B1 e1 B2 e2 B5 e5, true, 62, 6⟩
  generalize (H.set x2 _).set x3 _ = C at l1 k2 k3 ⊢
  have q2 := kn6 k2
  have q3 := kn6 k3
  have hc' := hc.le l1
  have hd' := hd.le l1
  have n5 := hb.n5
  repeat' (first | simp -implicitDefEqProofs only [zG1,zG2,zG3,zG4,zG5,zG6,zG7,eq_self,resV,rval,X.val,binv,fillL,setR,↓reduceIte,Nat.reduceEqDiff,Nat.reduceAdd,Nat.reduceMul,Nat.reduceLeDiff,Nat.reduceLT,Nat.reduceSub,reduceCtorEq,zGq, q2, q3, bne_self_eq_false, decide_true] | (with_reducible refine eqQuadSS_ok _ _ _ A0 B0 c0 e0 _ hc'.f0 hd'.f0 hb.n0 hb.m0 ?_) | (with_reducible refine eqThreadS_ok _ _ _ A1 B1 c1 e1 _ hc'.f1 hd'.f1 hb.n1 hb.m1 ?_) | (with_reducible refine eqBoxS_ok _ _ _ A2 B2 c2 e2 _ hc'.f2 hd'.f2 hb.n2 hb.m2 ?_) | (with_reducible refine eqIntS_ok _ _ _ A5 B5 c5 e5 _ _ hc'.f5 hd'.f5 (by omega) ?_))
  exact ⟨H, l1, h⟩
end
end Go.Proofs.Ytfjhjfddgdokgaa
namespace Go.Proofs.Ytfjhjfddgdokgaa
set_option linter.all false
open Go Go.RowKit Go.Joins Go.ChangeShapes Go.WideShapes Go.ChangeAt Go.Deep
set_option linter.unusedVariables false
set_option maxRecDepth 100000
section
variable {H : Type} {enc : TypeId × Value → H} {P : Program} {w : World} {base : Nat} {spare : Nat → Bool} {held : Bool}
theorem open_qrow {t e u : TypeId} {f0 f1 f2 f3 f4 : Field} (ht : P.underlying t = some (.slice e)) (he : P.underlying e = some (.struct #[f0, f1, f2, f3, f4])) (hone : oneCellFields P #[f0, f1, f2, f3, f4] = true) (hC : P.cellsOf e = 5)
    (hu : P.underlying u = some (.int .i64)) (hf : f0.type = u ∧ f1.type = u ∧ f2.type = u ∧ f3.type = u ∧ f4.type = u) (fuel : Nat) (cs : List Value) (x : DataW H × List MemPlace) (h : DataW.trod enc P w base spare held fuel t cs = some x) : ∃ qs : List Qd, QuadsR w qs cs := by
  have main : ∀ (a : Option Addr) (len cap : Nat), cs = [.slice a len cap] → ∃ qs : List Qd, QuadsR w qs cs := fun a len cap e => by
    obtain ⟨qs, rfl, hm, hfl⟩ := open_quads (a := a) (len := len) (cap := cap) (d := x.1) (p := x.2) ht he hone hC hu hf ⟨fuel, by subst e; simpa [Value.cells] using h⟩
    exact ⟨qs, a, cap, e, hm, hfl⟩
  rcases DataW.trod_slice ht h with ⟨hc, _⟩ | ⟨a, len, cap, elems, rest, m, hfm, hc, _⟩
  · exact main _ _ _ hc
  · exact main _ _ _ hc
abbrev RowsR (w : World) (L : List (List Qd)) (cs : List Value) : Prop := ∃ A c, cs = [.slice A L.length c] ∧ L.length ≤ maxLen ∧ (∀ x ∈ L, x.length ≤ maxLen) ∧ FR (heapOf w) A L
abbrev PairsR (w : World) (o u : Nat) (ts : List (List Int × Int)) (cs : List Value) : Prop := ∃ A c, cs = [.slice A ts.length c] ∧ ts.length ≤ maxLen ∧ (∀ x ∈ ts, x.1.length ≤ maxLen) ∧ FP (heapOf w) A o u ts
theorem open_rows {s t : TypeId} (hs : P.underlying s = some (.slice t)) (hC : P.cellsOf t = 1) (op : ∀ (fuel : Nat) (cs : List Value) (x : DataW H × List MemPlace), DataW.trod enc P w base spare held fuel t cs = some x → ∃ qs : List Qd, QuadsR w qs cs)
    (fuel : Nat) (cs : List Value) (x : DataW H × List MemPlace) (h : DataW.trod enc P w base spare held fuel s cs = some x) : ∃ L : List (List Qd), RowsR w L cs := by
  obtain ⟨L, A, c, e, hm, hr⟩ := open_row hs hC (QuadsR w) op h
  refine ⟨L, A, c, e, hm, fun x hx => ?_, fun i hi => ?_⟩
  · obtain ⟨i, hi, rfl⟩ := List.getElem_of_mem hx
    obtain ⟨_, vs, ⟨_, _, _, hm', _⟩, _, _⟩ := hr i hi
    exact hm'
  · obtain ⟨hA, vs, ⟨A', c', rfl, hm', hfl⟩, hl, hc⟩ := hr i hi
    have := hc 0 (by simp)
    rw [Nat.mul_one, Nat.add_zero] at this
    exact ⟨hA, A', c', this, hfl⟩
theorem open_pairs {o u : Nat} (hou : (o = 0 ∧ u = 1) ∨ (o = 1 ∧ u = 0)) {s t : TypeId} (hs : P.underlying s = some (.slice t)) (hC : P.cellsOf t = 2) (op : ∀ (fuel : Nat) (cs : List Value) (x : DataW H × List MemPlace), DataW.trod enc P w base spare held fuel t cs = some x → ∃ t : List Int × Int, PairR w o t cs)
    (fuel : Nat) (cs : List Value) (x : DataW H × List MemPlace) (h : DataW.trod enc P w base spare held fuel s cs = some x) : ∃ ts : List (List Int × Int), PairsR w o u ts cs := by
  obtain ⟨L, A, c, e, hm, hr⟩ := open_row hs hC (PairR w o) op h
  refine ⟨L, A, c, e, hm, fun x hx => ?_, fun i hi => ?_⟩
  · obtain ⟨i, hi, rfl⟩ := List.getElem_of_mem hx
    obtain ⟨_, vs, ⟨_, _, _, hm', _⟩, _, _⟩ := hr i hi
    exact hm'
  · obtain ⟨hA, vs, ⟨A', c', e', hm', hfl⟩, hl, hc⟩ := hr i hi
    subst e'
    have h0 := hc 0 (by omega)
    have h1 := hc 1 (by omega)
    rw [Nat.add_zero] at h0
    rcases hou with ⟨rfl, rfl⟩ | ⟨rfl, rfl⟩
    · exact ⟨hA, A', c', by rw [Nat.add_zero]; exact h0, h1, hfl⟩
    · exact ⟨hA, A', c', h1, by rw [Nat.add_zero]; exact h0, hfl⟩
theorem open_crew {t : TypeId} {f0 f1 f2 f3 f4 f5 : Field} (ht : P.underlying t = some (.struct #[f0, f1, f2, f3, f4, f5])) (ho : f0.offset = 0 ∧ f1.offset = 1 ∧ f2.offset = 2 ∧ f3.offset = 3 ∧ f4.offset = 4 ∧ f5.offset = 5)
    (hC : P.cellsOf t = 6) (hk : P.cellsOf f0.type = 1 ∧ P.cellsOf f1.type = 1 ∧ P.cellsOf f2.type = 1 ∧ P.cellsOf f3.type = 1 ∧ P.cellsOf f4.type = 1 ∧ P.cellsOf f5.type = 1)
    (op0 : ∀ (fuel : Nat) (cs : List Value) (x : DataW H × List MemPlace), DataW.trod enc P w base spare held fuel f0.type cs = some x → ∃ L : List (List Qd), RowsR w L cs)
    (op1 : ∀ (fuel : Nat) (cs : List Value) (x : DataW H × List MemPlace), DataW.trod enc P w base spare held fuel f1.type cs = some x → ∃ ts : List (List Int × Int), PairsR w 0 1 ts cs)
    (op2 : ∀ (fuel : Nat) (cs : List Value) (x : DataW H × List MemPlace), DataW.trod enc P w base spare held fuel f2.type cs = some x → ∃ ts : List (List Int × Int), PairsR w 1 0 ts cs)
    (op3 : ∀ (fuel : Nat) (cs : List Value) (x : DataW H × List MemPlace), DataW.trod enc P w base spare held fuel f3.type cs = some x → ∃ n : Int, cs = [.int .i64 n])
    (op4 : ∀ (fuel : Nat) (cs : List Value) (x : DataW H × List MemPlace), DataW.trod enc P w base spare held fuel f4.type cs = some x → ∃ n : Int, cs = [.int .i64 n])
    (op5 : ∀ (fuel : Nat) (cs : List Value) (x : DataW H × List MemPlace), DataW.trod enc P w base spare held fuel f5.type cs = some x → ∃ zs : List Int, ∃ A c, cs = [.slice A zs.length c] ∧ zs.length ≤ maxLen ∧ Fl (heapOf w) A (ints zs))
    {fuel : Nat} {cs : List Value} {x : DataW H × List MemPlace} (h : DataW.trod enc P w base spare held fuel t cs = some x) :
    ∃ (c : Cr) (A0 : Option Addr) (c0 : Nat) (A1 : Option Addr) (c1 : Nat) (A2 : Option Addr) (c2 : Nat) (A5 : Option Addr) (c5 : Nat), cs = crc c A0 c0 A1 c1 A2 c2 A5 c5 ∧ CrR (heapOf w) c A0 A1 A2 A5 ∧ CrB maxLen c := by
  obtain ⟨xs, n, hfn, _, hlen, hxl, hg⟩ := DataW.trod_struct ht h
  rw [hC] at hlen
  match cs, hlen with
  | [v0, v1, v2, v3, v4, v5], _ =>
    match xs, hxl with
    | [y0, y1, y2, y3, y4, y5], _ =>
      have h0 := hg 0 f0 rfl
      have h1 := hg 1 f1 rfl
      have h2 := hg 2 f2 rfl
      have h3 := hg 3 f3 rfl
      have h4 := hg 4 f4 rfl
      have h5 := hg 5 f5 rfl
      rw [ho.1, hk.1] at h0
      rw [ho.2.1, hk.2.1] at h1
      rw [ho.2.2.1, hk.2.2.1] at h2
      rw [ho.2.2.2.1, hk.2.2.2.1] at h3
      rw [ho.2.2.2.2.1, hk.2.2.2.2.1] at h4
      rw [ho.2.2.2.2.2, hk.2.2.2.2.2] at h5
      simp only [List.drop_zero, List.drop_succ_cons, List.take_succ_cons, List.take_zero, List.getElem?_cons_zero, List.getElem?_cons_succ] at h0 h1 h2 h3 h4 h5
      obtain ⟨L, A0, c0, e0, m0, n0, r0⟩ := op0 _ _ _ h0
      obtain ⟨ts, A1, c1, e1, m1, n1, r1⟩ := op1 _ _ _ h1
      obtain ⟨bs, A2, c2, e2, m2, n2, r2⟩ := op2 _ _ _ h2
      obtain ⟨z3, e3⟩ := op3 _ _ _ h3
      obtain ⟨z4, e4⟩ := op4 _ _ _ h4
      obtain ⟨zs, A5, c5, e5, m5, r5⟩ := op5 _ _ _ h5
      simp only [List.cons.injEq, and_true] at e0 e1 e2 e3 e4 e5
      subst e0 e1 e2 e3 e4 e5
      exact ⟨⟨L, ts, bs, z3, z4, zs⟩, A0, c0, A1, c1, A2, c2, A5, c5, rfl, ⟨r0, r1, r2, r5⟩, ⟨m0, n0, m1, n1, m2, n2, m5⟩⟩
end
end Go.Proofs.Ytfjhjfddgdokgaa
namespace Go.Proofs.Ytfjhjfddgdokgaa
set_option linter.all false
open Go Go.RowKit
/-- v is a row of the call's own, over H. -/
def Row (H C : AHeap) (t : TypeId) (sz : Nat) (v : Value) (n : Nat) (xs : List Value) : Prop := ∃ bs, AHeap.le H C ∧ New H bs ∧ Rw C t sz v n xs bs
section
variable {P : Program} {w0 : World} {K : Value → AHeap → Prop} {H H' B C C' C2 : AHeap} {t : TypeId} {sz n m b : Nat} {v : Value} {xs news : List Value}
theorem Row.le (h : Row H C t sz v n xs) (l : AHeap.le C C') : Row H C' t sz v n xs := by
  obtain ⟨bs, l0, nb, w⟩ := h
  exact ⟨bs, l0.trans l, nb, w.trans l⟩
theorem Row.fl (h : Row H C t sz v n xs) : ∃ A c, v = .slice A n c ∧ Fl C A xs := by
  obtain ⟨bs, l0, nb, w⟩ := h
  exact w.fl
theorem Row.fl' {A : Option Addr} {n' c : Nat} (h : Row H C t sz (.slice A n' c) n xs) : Fl C A xs ∧ n' = n := by
  obtain ⟨bs, l0, nb, w⟩ := h
  exact w.fl'
theorem Row.len (h : Row H C t sz v n xs) : xs.length = n * sz := by
  obtain ⟨bs, l0, nb, w⟩ := h
  exact w.len
theorem Row.nil_ (H : AHeap) (t : TypeId) (sz : Nat) : Row H H t sz (.slice none 0 0) 0 [] := ⟨[], .refl _, New.nil _, Rw.nil_ _ _ _⟩
theorem Row.lit0 (hb : H b = none) : Row H (H.set b ⟨[], true, t, 0⟩) t sz (.slice (some ⟨b, 0, none⟩) 0 0) 0 [] :=
  ⟨[b], (AHeap.le.refl H).fresh hb _, New.one hb, Rw.mk (cap := 0) (by rw [Nat.zero_mul]; exact Kn.same _ _ _) (by simp) (Nat.le_refl _) (by decide)⟩
/-- A row made by a literal. -/
theorem Row.lit (hb : H b = none) {c : Nat} (hc : c = n * sz) (hl : xs.length = n * sz) (hm : n ≤ maxLen) : Row H (H.set b ⟨xs, true, t, c⟩) t sz (.slice (some ⟨b, 0, none⟩) n n) n xs := by
  subst hc
  exact ⟨[b], (AHeap.le.refl H).fresh hb _, New.one hb, Rw.mk (Kn.same _ _ _) hl (Nat.le_refl _) hm⟩
/-- Append what can be read. -/
theorem Row.app {z : List Value} {bytes : Nat} {xa : Option Addr} {xc : Nat} (h : Row H C t z.length v n xs) (hf : Fl C xa news) (hl : news.length = m * z.length) (h1 : ∀ u ∈ news, u.oneCell' = true) (hm : n + m ≤ maxLen) (hB : (n + m) * bytes ≤ 140737488355328)
    (hK : ∀ v' C', Row H C' t z.length v' (n + m) (xs ++ news) → K v' C') : appK P w0 z t bytes v (.slice xa m xc) K C := by
  obtain ⟨bs, l, nb, w⟩ := h
  refine app_rw w hf hl h1 hm hB fun v' C' bs' hc hn hr => hK v' C' ⟨bs', hc.keep l nb, fun x hx => ?_, hr⟩
  rcases hn x hx with h | h
  · exact nb x h
  · exact l.none h
end
end Go.Proofs.Ytfjhjfddgdokgaa
namespace Go.Proofs.Ytfjhjfddgdokgaa
set_option linter.all false
open Go Go.RowKit
/-- What C' knows of the blocks that C does not know. -/
def AHeap.off (C' C : AHeap) : AHeap := fun x => if (C x).isSome then none else C' x
theorem off_at {C' C : AHeap} {x : Nat} (h : C x = none) : C'.off C x = C' x := by simp [AHeap.off, h]
section
variable {H C C' C1 C2 D : AHeap} {b x : Nat} {k : Blk} {bs bs' : List Nat}
theorem kn_off {k : Blk} (hx : H x = none) (hk : Kn C x k) : Kn (C.off H) x k := by
  obtain ⟨k1, h1, r⟩ := hk
  exact ⟨k1, by rw [off_at hx]; exact h1, r⟩
end
end Go.Proofs.Ytfjhjfddgdokgaa
namespace Go.Proofs.Ytfjhjfddgdokgaa
set_option linter.all false
open Go Go.RowKit
set_option maxRecDepth 100000
variable (w0 : World) (C : AHeap) (K : Value → AHeap → Prop)
theorem markIntS_rw {t : TypeId} {v : Value} {n : Nat} {xs : List Value} {bs : List Nat} (hr : Rw C t 1 v n xs bs) (hn : n ≤ 4611686018427387904) (k : Int) (h0 : 0 ≤ k) (h1 : k < 4611686018427387904)
    (h : ∀ C', Chg C C' bs → Rw C' t 1 v n (ints (marks k n)) bs → K (.int .i64 (k + n)) C') : ACalls Try.prog w0 43 [v, .int .i64 k] C K := by
  obtain ⟨A, B, lB, oB, hA⟩ := hr.own_
  refine ACalls.mono (markIntS_ok _ _ _ _ _ _ _ _ k oB hn h0 h1 (fun C' o => ?_)) lB
  obtain ⟨h1, h2⟩ := Rw.put oB hA hr rfl o
  exact h C' h1 h2
end Go.Proofs.Ytfjhjfddgdokgaa
namespace Go.Proofs.Ytfjhjfddgdokgaa
set_option linter.all false
open Go Go.RowKit
set_option maxRecDepth 100000
/-- The row of numbers stands at place o of a pair, the number at place u. -/
def OP (C : AHeap) (t' : TypeId) (o u : Nat) (v : Value) (ts : List (List Int × Int)) (bs : List Nat) : Prop :=
  ∃ (vs : List Value) (ob : List Nat) (bss : List (List Nat)), Rw C t' 2 v ts.length vs ob ∧ (∀ x, x ∈ ob → x ∈ bs) ∧
    (∀ (i : Nat) (ib : List Nat), bss[i]? = some ib → (∀ x, x ∈ ib → x ∈ bs ∧ ¬ x ∈ ob) ∧ ∀ (j : Nat) (jb : List Nat), bss[j]? = some jb → i ≠ j → ∀ x, x ∈ ib → ¬ x ∈ jb) ∧
    ∀ (i : Nat) (hi : i < ts.length), ∃ x ib, vs[i * 2 + o]? = some x ∧ vs[i * 2 + u]? = some (.int .i64 ts[i].2) ∧ bss[i]? = some ib ∧ Rw C 3 1 x ts[i].1.length (ints ts[i].1) ib
section
variable {H C C' : AHeap} {t' : TypeId} {o u : Nat} {v : Value} {ts : List (List Int × Int)} {bs bs' : List Nat} {A : Option Addr} {m c : Nat}
theorem OP.trans (h : OP C t' o u v ts bs) (l : AHeap.le C C') : OP C' t' o u v ts bs := by
  obtain ⟨vs, ob, bss, h1, h2, h3, h4⟩ := h
  refine ⟨vs, ob, bss, h1.trans l, h2, h3, fun i hi => ?_⟩
  obtain ⟨x, ib, e1, e2, e3, e4⟩ := h4 i hi
  exact ⟨x, ib, e1, e2, e3, e4.trans l⟩
theorem OP.chg (h : OP C t' o u v ts bs) (hc : Chg C C' bs') (hd : ∀ b, b ∈ bs → ¬ b ∈ bs') : OP C' t' o u v ts bs := by
  obtain ⟨vs, ob, bss, h1, h2, h3, h4⟩ := h
  refine ⟨vs, ob, bss, h1.chg hc fun y hy => hd y (h2 y hy), h2, h3, fun i hi => ?_⟩
  obtain ⟨x, ib, e1, e2, e3, e4⟩ := h4 i hi
  exact ⟨x, ib, e1, e2, e3, e4.chg hc fun y hy => hd y ((h3 i ib e3).1 y hy).1⟩
theorem OP.slice (h : OP C t' o u v ts bs) : ∃ A c, v = .slice A ts.length c := by
  obtain ⟨vs, ob, bss, h1, _⟩ := h
  exact h1.slice
theorem OP.fp (h : OP C t' o u (.slice A m c) ts bs) : FP C A o u ts ∧ m = ts.length := by
  obtain ⟨vs, ob, bss, h1, h2, h3, h4⟩ := h
  obtain ⟨f, rfl⟩ := h1.fl'
  refine ⟨fun i hi => ?_, rfl⟩
  obtain ⟨x, ib, e1, e2, e3, e4⟩ := h4 i hi
  obtain ⟨A', c', rfl, fx⟩ := e4.fl
  exact ⟨f.is (i := i * 2 + o) (List.getElem?_eq_some_iff.1 e1).1, A', c', f _ _ e1, f _ _ e2, fx⟩
/-- A row of numbers, changed in place. -/
theorem OP.inner (h : OP C t' o u (.slice A m c) ts bs) {i : Nat} (hi : i < ts.length) : A.isSome = true ∧ ∃ x ib, C.cell (adr A (i * 2 + o)) = some x ∧ Rw C 3 1 x ts[i].1.length (ints ts[i].1) ib ∧ (∀ y, y ∈ ib → y ∈ bs) ∧
    ∀ C' xs', xs'.length = ts[i].1.length → Chg C C' ib → Rw C' 3 1 x ts[i].1.length (ints xs') ib → OP C' t' o u (.slice A m c) (ts.set i (xs', ts[i].2)) bs := by
  obtain ⟨vs, ob, bss, h1, h2, h3, h4⟩ := h
  obtain ⟨x, ib, e1, e2, e3, e4⟩ := h4 i hi
  have hf := h1.fl'.1
  refine ⟨hf.is (i := i * 2 + o) ((List.getElem?_eq_some_iff.1 e1).1), x, ib, hf _ _ e1, e4, fun y hy => ((h3 i ib e3).1 y hy).1, fun C' xs' hl hc hw => ⟨vs, ob, bss, ?_, h2, h3, fun j hj => ?_⟩⟩
  · rw [List.length_set]
    exact h1.chg hc fun y hy hm => ((h3 i ib e3).1 y hm).2 hy
  · rw [List.length_set] at hj
    rw [List.getElem_set]
    split
    · rename_i e
      subst e
      exact ⟨x, ib, e1, e2, e3, by simp only; rw [hl]; exact hw⟩
    · rename_i e
      obtain ⟨x', ib', a1, a2, a3, a4⟩ := h4 j hj
      exact ⟨x', ib', a1, a2, a3, a4.chg hc ((h3 j ib' a3).2 i ib e3 (fun e' => e e'.symm))⟩
/-- A number, put in place. -/
theorem OP.num {K : Value → AHeap → Prop} {p : Int} (h : OP C t' o u (.slice A m c) ts bs) {i : Nat} (hi : i < ts.length) (hou : (o = 0 ∧ u = 1) ∨ (o = 1 ∧ u = 0)) (hK : ∀ C', Chg C C' bs → OP C' t' o u (.slice A m c) (ts.set i (ts[i].1, p)) bs → K undef C') : stK 1 (.pointer (adr A (i * 2 + u))) (.int .i64 p) K C := by
  obtain ⟨vs, ob, bss, h1, h2, h3, h4⟩ := h
  obtain ⟨b, cap, e, rfl, hn, hc, hl, hk⟩ := h1.open_ (by omega)
  simp only [Value.slice.injEq] at e
  obtain ⟨rfl, rfl, rfl⟩ := e
  rw [adr_lit, Nat.zero_add]
  refine st_kn hk rfl (by rw [vcI]; rfl) (by simp only; omega) (by rw [vcI]; simp [ocI]) (fun C' hc' ho' k' => ?_)
  rw [vcI] at k'
  simp only [setR] at k'
  have hm : ∀ y, y ∈ [b] → y ∈ bs := fun y hy => h2 y hy
  refine hK C' (hc'.mono hm) ⟨vs.set (i * 2 + u) (.int .i64 p), [b], bss, ?_, h2, h3, fun j hj => ?_⟩
  · rw [List.length_set]
    exact Rw.mk k' (by rw [List.length_set]; exact hl) hn hc
  · rw [List.length_set] at hj
    obtain ⟨x', ib', a1, a2, a3, a4⟩ := h4 j hj
    have hx : (ts.set i (ts[i].1, p))[j]'(by rw [List.length_set]; exact hj) = if i = j then (ts[i].1, p) else ts[j] := List.getElem_set ..
    have w' := a4.chg hc' fun y hy hm => ((h3 j ib' a3).1 y hy).2 hm
    rw [hx]
    refine ⟨x', ib', ?_, ?_, a3, ?_⟩
    · rw [List.getElem?_set_ne (by rcases hou with ⟨rfl, rfl⟩ | ⟨rfl, rfl⟩ <;> omega)]; exact a1
    · split
      · rename_i e; subst e
        rw [List.getElem?_set_self (by have := (List.getElem?_eq_some_iff.1 a2).1; omega)]
      · rename_i e
        rw [List.getElem?_set_ne (by rcases hou with ⟨rfl, rfl⟩ | ⟨rfl, rfl⟩ <;> omega)]; exact a2
    · split
      · rename_i e; subst e; exact w'
      · exact w'
theorem OP.off (h : OP C t' o u v ts bs) (hn : New H bs) : OP (C.off H) t' o u v ts bs := by
  obtain ⟨vs, ob, bss, h1, h2, h3, h4⟩ := h
  have w : ∀ {t : TypeId} {sz : Nat} {v : Value} {n : Nat} {xs : List Value} {cs : List Nat}, Rw C t sz v n xs cs → (∀ y, y ∈ cs → y ∈ bs) → Rw (C.off H) t sz v n xs cs := fun h hs => by
    rcases h with h | ⟨b, cap, h1, rfl, h3, h4, h5, h6⟩
    · exact .inl h
    · exact .inr ⟨b, cap, h1, rfl, h3, h4, h5, kn_off (hn b (hs b (by simp))) h6⟩
  refine ⟨vs, ob, bss, w h1 h2, h2, h3, fun i hi => ?_⟩
  obtain ⟨x, ib, e1, e2, e3, e4⟩ := h4 i hi
  exact ⟨x, ib, e1, e2, e3, w e4 fun y hy => ((h3 i ib e3).1 y hy).1⟩
end
end Go.Proofs.Ytfjhjfddgdokgaa
namespace Go.Proofs.Ytfjhjfddgdokgaa
set_option linter.all false
open Go Go.RowKit
set_option maxRecDepth 100000
variable (w0 : World) (H : AHeap) (K : Value → AHeap → Prop)
theorem rw_kn {C : AHeap} {t : TypeId} {sz : Nat} {v : Value} {n : Nat} {xs : List Value} {bs : List Nat} (h : Rw C t sz v n xs bs) : ∀ y, y ∈ bs → C y ≠ none := fun y hy => by
  rcases h with ⟨_, _, _, rfl⟩ | ⟨bb, cap, _, rfl, _, _, _, kk⟩
  · simp at hy
  · simp at hy; subst hy; exact kk.ne
/-- The pairs made so far, in blocks of their own. -/
def OPk (H C : AHeap) (b : Nat) (o u : Nat) (ts : List (List Int × Int)) (k : Nat) (vs : List Value) (bf : Nat → List Nat) : Prop :=
  ∀ i (hi : i < ts.length), i < k → ∃ x, vs[i * 2 + o]? = some x ∧ vs[i * 2 + u]? = some (.int .i64 ts[i].2) ∧ Rw C 3 1 x ts[i].1.length (ints ts[i].1) (bf i) ∧ (∀ y, y ∈ bf i → H y = none ∧ ¬ y = b) ∧ ∀ j, j < i → ∀ y, y ∈ bf i → ¬ y ∈ bf j
theorem OPk.op {H C : AHeap} {b o u : Nat} {t' : TypeId} {ts : List (List Int × Int)} {vs : List Value} {bf : Nat → List Nat} (h : OPk H C b o u ts ts.length vs bf) (hk : Kn C b ⟨vs, true, t', ts.length * 2⟩) (hl : vs.length = ts.length * 2) (hm : ts.length ≤ maxLen) (hb : H b = none) :
    OP C t' o u (.slice (some ⟨b, 0, none⟩) ts.length ts.length) ts (b :: ((List.range ts.length).map bf).flatten) ∧ New H (b :: ((List.range ts.length).map bf).flatten) ∧ ∀ y, y ∈ (b :: ((List.range ts.length).map bf).flatten) → C y ≠ none := by
  have at_ : ∀ i ib, ((List.range ts.length).map bf)[i]? = some ib → i < ts.length ∧ ib = bf i := fun i ib e => by
    rw [List.getElem?_map] at e
    rcases Nat.lt_or_ge i ts.length with hi | hi
    · rw [List.getElem?_range hi] at e
      simp only [Option.map_some, Option.some.injEq] at e
      exact ⟨hi, e.symm⟩
    · rw [List.getElem?_eq_none (by simpa using hi)] at e
      simp at e
  have mem : ∀ y, y ∈ ((List.range ts.length).map bf).flatten → ∃ i, i < ts.length ∧ y ∈ bf i := fun y hy => by
    simp only [List.mem_flatten, List.mem_map, List.mem_range] at hy
    obtain ⟨l, ⟨i, hi, rfl⟩, hy⟩ := hy
    exact ⟨i, hi, hy⟩
  refine ⟨⟨vs, [b], (List.range ts.length).map bf, Rw.mk hk hl (Nat.le_refl _) hm, fun x hx => by simp only [List.mem_cons, List.not_mem_nil, or_false] at hx; subst hx; exact List.mem_cons_self, fun i ib e => ?_, fun i hi => ?_⟩, fun y hy => ?_, fun y hy => ?_⟩
  · obtain ⟨hi, rfl⟩ := at_ i ib e
    obtain ⟨x, e1, e2, e3, e4, e5⟩ := h i hi hi
    refine ⟨fun y hy => ⟨List.mem_cons_of_mem _ ?_, by simpa using (e4 y hy).2⟩, fun j jb e' hne => ?_⟩
    · simp only [List.mem_flatten, List.mem_map, List.mem_range]
      exact ⟨_, ⟨i, hi, rfl⟩, hy⟩
    · obtain ⟨hj, rfl⟩ := at_ j jb e'
      rcases Nat.lt_or_gt_of_ne hne with hlt | hgt
      · intro y hy hy'
        obtain ⟨_, _, _, _, _, e5'⟩ := h j hj hj
        exact e5' i hlt y hy' hy
      · exact e5 j hgt
  · obtain ⟨x, e1, e2, e3, e4, e5⟩ := h i hi hi
    exact ⟨x, bf i, e1, e2, by rw [List.getElem?_map, List.getElem?_range hi]; rfl, e3⟩
  · simp only [List.mem_cons] at hy
    rcases hy with rfl | hy
    · exact hb
    · obtain ⟨i, hi, hy⟩ := mem y hy
      obtain ⟨x, e1, e2, e3, e4, e5⟩ := h i hi hi
      exact (e4 y hy).1
  · simp only [List.mem_cons] at hy
    rcases hy with rfl | hy
    · exact hk.ne
    · obtain ⟨i, hi, hy⟩ := mem y hy
      obtain ⟨x, e1, e2, e3, e4, e5⟩ := h i hi hi
      exact rw_kn e3 y hy
theorem OPk.put {H C C5 C6 : AHeap} {b o u k : Nat} {ts : List (List Int × Int)} {vs vs' : List Value} {bf : Nat → List Nat} {x : Value} {bs5 : List Nat} (h : OPk H C b o u ts k vs bf) (hk : k < ts.length) (hle : AHeap.le H C) (l5 : AHeap.le C C5) (n5 : New C bs5) (w5 : Rw C5 3 1 x ts[k].1.length (ints ts[k].1) bs5) (hc : Chg C5 C6 [b]) (kb : C b ≠ none)
    (g : ∀ j, ¬ (k * 2 ≤ j ∧ j < k * 2 + 2) → vs'[j]? = vs[j]?) (g1 : vs'[k * 2 + o]? = some x) (g2 : vs'[k * 2 + u]? = some (.int .i64 ts[k].2)) (ho : o < 2) (hu : u < 2) : OPk H C6 b o u ts (k + 1) vs' (fun i => if i = k then bs5 else bf i) := by
  intro i hi hik
  have nb : ¬ b ∈ bs5 := fun hm => kb (n5 b hm)
  have e : (fun i => if i = k then bs5 else bf i) i = if i = k then bs5 else bf i := rfl
  by_cases hi' : i = k
  · subst hi'
    refine ⟨x, g1, g2, ?_, ?_, ?_⟩
    · simp only [if_true]
      exact w5.chg hc fun y hy e => nb (by simp at e; exact e ▸ hy)
    · simp only [if_true]
      exact fun y hy => ⟨n5.le hle y hy, fun e => nb (e ▸ hy)⟩
    · intro j hj y hy hy'
      simp only [if_true] at hy
      simp only [if_neg (show ¬ j = i by omega)] at hy'
      obtain ⟨x', e1, e2, e3, e4, e5⟩ := h j (by omega) hj
      exact rw_kn e3 y hy' (n5 y hy)
  · obtain ⟨x', e1, e2, e3, e4, e5⟩ := h i hi (by omega)
    refine ⟨x', by rw [g _ (by omega)]; exact e1, by rw [g _ (by omega)]; exact e2, ?_, ?_, ?_⟩
    · simp only [if_neg hi']
      exact (e3.trans l5).chg hc fun y hy e => (e4 y hy).2 (by simpa using e)
    · simp only [if_neg hi']
      exact e4
    · intro j hj y hy
      simp only [if_neg hi'] at hy
      simp only [if_neg (show ¬ j = k by omega)]
      exact e5 j hj y hy
theorem toThreadS_own (A : Option Addr) (c : Nat) (ts : List (List Int × Int)) (hx : FP H A 0 1 ts) (hn : ts.length ≤ 1048576) (hL : ∀ x ∈ ts, x.1.length ≤ 1048576) (h : ∀ v C bs, AHeap.le H C → New H bs → (∀ y, y ∈ bs → C y ≠ none) → OP C 125 0 1 v ts bs → K v C) :
    ACalls Try.prog w0 89 [.slice A ts.length c] H K := by
  refine acalls_of_sx mix Try.func89 of89 (by simp [ir89]) ?_; rw [ir89]; (try delta qT qI qC qO qM qG)
  repeat' (first | simp -implicitDefEqProofs only [zG1,zG2,zG3,zG4,zG5,zG6,zG7,eq_self,resV,rval,X.val,binv,fillL,setR,↓reduceIte,Nat.reduceEqDiff,Nat.reduceAdd,Nat.reduceMul,Nat.reduceLeDiff,Nat.reduceLT,Nat.reduceSub,reduceCtorEq,zGp] | ((with_reducible refine rows_intro (fun _ hb => ?_)); try simp only [set_none, ne_eq] at hb) | ((with_reducible refine new_intro (fun _ hb => ?_)); try simp only [set_none, ne_eq] at hb) | (with_reducible refine draw_same ?_) | ((with_reducible refine gd_split ?_ (fun _ => ?_) (fun _ => ?_)); exact rfl) | ((with_reducible refine td_split ?_ (fun _ => ?_) (fun _ => ?_)); exact rfl) | (with_reducible refine c_split (fun _ => ?_) (fun _ => ?_)))
  refine mk_intro (n := ts.length) (by omega) (by omega) (fun b hb => ?_)
  repeat' (first | simp -implicitDefEqProofs only [zG1,zG2,zG3,zG4,zG5,zG6,zG7,eq_self,resV,rval,X.val,binv,fillL,setR,↓reduceIte,Nat.reduceEqDiff,Nat.reduceAdd,Nat.reduceMul,Nat.reduceLeDiff,Nat.reduceLT,Nat.reduceSub,reduceCtorEq,zGp] | ((with_reducible refine rows_intro (fun _ hb => ?_)); try simp only [set_none, ne_eq] at hb) | ((with_reducible refine new_intro (fun _ hb => ?_)); try simp only [set_none, ne_eq] at hb) | (with_reducible refine draw_same ?_) | ((with_reducible refine gd_split ?_ (fun _ => ?_) (fun _ => ?_)); exact rfl) | ((with_reducible refine td_split ?_ (fun _ => ?_) (fun _ => ?_)); exact rfl) | (with_reducible refine c_split (fun _ => ?_) (fun _ => ?_)))
  have rl : ∀ n, (repl [.slice none 0 0, .int .i64 0] n).length = n * 2 := fun n => by
    induction n with
    | zero => rfl
    | succ n ih => simp only [repl, List.length_append, ih, List.length_cons, List.length_nil]; omega
  refine for_rule ts.length (fun k fr C => ∃ (vs : List Value) (bf : Nat → List Nat), AHeap.le H C ∧ Kn C b ⟨vs, true, 125, ts.length * 2⟩ ∧ vs.length = ts.length * 2 ∧ OPk H C b 0 1 ts k vs bf ∧ fr 0 = .slice A ts.length c ∧ fr 3 = .slice (some ⟨b, 0, none⟩) ts.length ts.length ∧ fr 4 = .int .i64 k)
    ⟨_, fun _ => [], (AHeap.le.refl H).fresh hb _, Kn.same _ _ _, rl _, fun i _ hi => absurd hi (Nat.not_lt_zero _), (by first | rfl | (simp only [put_at, ↓reduceIte, Nat.reduceEqDiff]; first | done | rfl | assumption) | simp [put_at, *]), (by first | rfl | (simp only [put_at, ↓reduceIte, Nat.reduceEqDiff]; first | done | rfl | assumption) | simp [put_at, *]), (by first | rfl | (simp only [put_at, ↓reduceIte, Nat.reduceEqDiff]; first | done | rfl | assumption) | simp [put_at, *])⟩ ?_ ?_
  · rintro k fr C hk ⟨vs, bf, hle, kn, hvl, hrow, f0, f3, f4⟩ N hN
    have g0 := lt_dec hk
    have g1 := rng hk
    have g2 := up1 hk (by omega)
    obtain ⟨q1, A', c', q2, fl⟩ := (hx.le hle).rd0 hk
    repeat' (first | simp -implicitDefEqProofs only [zG1,zG2,zG3,zG4,zG5,zG6,zG7,eq_self,resV,rval,X.val,binv,fillL,setR,↓reduceIte,Nat.reduceEqDiff,Nat.reduceAdd,Nat.reduceMul,Nat.reduceLeDiff,Nat.reduceLT,Nat.reduceSub,reduceCtorEq,zGp, f0, f3, f4, g0, g1, g2, q1, q2, adr_lit, Nat.zero_add] | ((with_reducible refine rows_intro (fun _ hb => ?_)); try simp only [set_none, ne_eq] at hb) | ((with_reducible refine new_intro (fun _ hb => ?_)); try simp only [set_none, ne_eq] at hb) | (with_reducible refine draw_same ?_) | ((with_reducible refine gd_split ?_ (fun _ => ?_) (fun _ => ?_)); exact rfl) | ((with_reducible refine td_split ?_ (fun _ => ?_) (fun _ => ?_)); exact rfl) | (with_reducible refine c_split (fun _ => ?_) (fun _ => ?_)))
    refine toThread_ok _ _ _ A' c' ts[k].1 ts[k].2 fl (hL _ (List.getElem_mem hk)) (fun v5 C5 bs5 l5 n5 w5 => ?_)
    obtain ⟨A5, c5, rfl, -⟩ := w5.fl
    have kn5 := kn.trans l5
    repeat' (first | simp -implicitDefEqProofs only [zG1,zG2,zG3,zG4,zG5,zG6,zG7,eq_self,resV,rval,X.val,binv,fillL,setR,↓reduceIte,Nat.reduceEqDiff,Nat.reduceAdd,Nat.reduceMul,Nat.reduceLeDiff,Nat.reduceLT,Nat.reduceSub,reduceCtorEq,zGp, f0, f3, f4, g1, adr_lit, Nat.zero_add] | ((with_reducible refine rows_intro (fun _ hb => ?_)); try simp only [set_none, ne_eq] at hb) | ((with_reducible refine new_intro (fun _ hb => ?_)); try simp only [set_none, ne_eq] at hb) | (with_reducible refine draw_same ?_) | ((with_reducible refine gd_split ?_ (fun _ => ?_) (fun _ => ?_)); exact rfl) | ((with_reducible refine td_split ?_ (fun _ => ?_) (fun _ => ?_)); exact rfl) | (with_reducible refine c_split (fun _ => ?_) (fun _ => ?_)))
    refine st_kn kn5 rfl rfl (by simp only; rw [hvl]; show k * 2 + 2 ≤ _; omega) (by simp [vcA, Value.oneCell']) (fun C6 hc6 ho6 k6 => ?_)
    have k6' : Kn C6 b ⟨setR vs (k * 2) [.slice A5 ts[k].1.length c5, .int .i64 ts[k].2], true, 125, ts.length * 2⟩ := k6
    have gs : ∀ j, (setR vs (k * 2) [.slice A5 ts[k].1.length c5, .int .i64 ts[k].2])[j]? = if k * 2 ≤ j ∧ j < k * 2 + 2 then ([.slice A5 ts[k].1.length c5, .int .i64 ts[k].2])[j - k * 2]? else vs[j]? := fun j => by
      rw [getElem?_setR _ _ _ _ (by rw [hvl]; show k * 2 + 2 ≤ _; omega)]; rfl
    repeat' (first | simp -implicitDefEqProofs only [zG1,zG2,zG3,zG4,zG5,zG6,zG7,eq_self,resV,rval,X.val,binv,fillL,setR,↓reduceIte,Nat.reduceEqDiff,Nat.reduceAdd,Nat.reduceMul,Nat.reduceLeDiff,Nat.reduceLT,Nat.reduceSub,reduceCtorEq,zGp, f0, f3, f4, g2] | ((with_reducible refine rows_intro (fun _ hb => ?_)); try simp only [set_none, ne_eq] at hb) | ((with_reducible refine new_intro (fun _ hb => ?_)); try simp only [set_none, ne_eq] at hb) | (with_reducible refine draw_same ?_) | ((with_reducible refine gd_split ?_ (fun _ => ?_) (fun _ => ?_)); exact rfl) | ((with_reducible refine td_split ?_ (fun _ => ?_) (fun _ => ?_)); exact rfl) | (with_reducible refine c_split (fun _ => ?_) (fun _ => ?_)))
    refine hN _ _ _ (.refl _) ⟨_, _, hc6.keep (hle.trans l5) (New.one hb), k6', ?_, hrow.put hk hle l5 n5 w5 hc6 kn.ne (fun j hj => ?_) ?_ ?_ (by decide) (by decide), (by first | rfl | (simp only [put_at, ↓reduceIte, Nat.reduceEqDiff]; first | done | rfl | assumption) | simp [put_at, *]), (by first | rfl | (simp only [put_at, ↓reduceIte, Nat.reduceEqDiff]; first | done | rfl | assumption) | simp [put_at, *]), (by first | rfl | (simp only [put_at, ↓reduceIte, Nat.reduceEqDiff]; first | done | rfl | assumption) | simp [put_at, *])⟩
    · rw [length_setR]; exact hvl
    · rw [gs, if_neg hj]
    · rw [gs, if_pos (by omega), Nat.add_sub_cancel_left]; rfl
    · rw [gs, if_pos (by omega), Nat.add_sub_cancel_left]; rfl
  · rintro fr C ⟨vs, bf, hle, kn, hvl, hrow, f0, f3, f4⟩ N
    have g0 : decide ((ts.length : Int) < (ts.length : Int)) = false := by simp
    repeat' (first | simp -implicitDefEqProofs only [zG1,zG2,zG3,zG4,zG5,zG6,zG7,eq_self,resV,rval,X.val,binv,fillL,setR,↓reduceIte,Nat.reduceEqDiff,Nat.reduceAdd,Nat.reduceMul,Nat.reduceLeDiff,Nat.reduceLT,Nat.reduceSub,reduceCtorEq,zGp, f0, f3, f4, g0] | ((with_reducible refine rows_intro (fun _ hb => ?_)); try simp only [set_none, ne_eq] at hb) | ((with_reducible refine new_intro (fun _ hb => ?_)); try simp only [set_none, ne_eq] at hb) | (with_reducible refine draw_same ?_) | ((with_reducible refine gd_split ?_ (fun _ => ?_) (fun _ => ?_)); exact rfl) | ((with_reducible refine td_split ?_ (fun _ => ?_) (fun _ => ?_)); exact rfl) | (with_reducible refine c_split (fun _ => ?_) (fun _ => ?_)))
    obtain ⟨r1, r2, r3⟩ := hrow.op kn hvl (by simp only [maxLen]; omega) hb
    exact ret_same (h _ _ _ hle r2 r3 r1)
theorem toBoxS_own (A : Option Addr) (c : Nat) (ts : List (List Int × Int)) (hx : FP H A 1 0 ts) (hn : ts.length ≤ 1048576) (hL : ∀ x ∈ ts, x.1.length ≤ 1048576) (h : ∀ v C bs, AHeap.le H C → New H bs → (∀ y, y ∈ bs → C y ≠ none) → OP C 179 1 0 v ts bs → K v C) :
    ACalls Try.prog w0 90 [.slice A ts.length c] H K := by
  refine acalls_of_sx mix Try.func90 of90 (by simp [ir90]) ?_; rw [ir90]; (try delta qT qI qC qO qM qG)
  repeat' (first | simp -implicitDefEqProofs only [zG1,zG2,zG3,zG4,zG5,zG6,zG7,eq_self,resV,rval,X.val,binv,fillL,setR,↓reduceIte,Nat.reduceEqDiff,Nat.reduceAdd,Nat.reduceMul,Nat.reduceLeDiff,Nat.reduceLT,Nat.reduceSub,reduceCtorEq,zGp] | ((with_reducible refine rows_intro (fun _ hb => ?_)); try simp only [set_none, ne_eq] at hb) | ((with_reducible refine new_intro (fun _ hb => ?_)); try simp only [set_none, ne_eq] at hb) | (with_reducible refine draw_same ?_) | ((with_reducible refine gd_split ?_ (fun _ => ?_) (fun _ => ?_)); exact rfl) | ((with_reducible refine td_split ?_ (fun _ => ?_) (fun _ => ?_)); exact rfl) | (with_reducible refine c_split (fun _ => ?_) (fun _ => ?_)))
  refine mk_intro (n := ts.length) (by omega) (by omega) (fun b hb => ?_)
  repeat' (first | simp -implicitDefEqProofs only [zG1,zG2,zG3,zG4,zG5,zG6,zG7,eq_self,resV,rval,X.val,binv,fillL,setR,↓reduceIte,Nat.reduceEqDiff,Nat.reduceAdd,Nat.reduceMul,Nat.reduceLeDiff,Nat.reduceLT,Nat.reduceSub,reduceCtorEq,zGp] | ((with_reducible refine rows_intro (fun _ hb => ?_)); try simp only [set_none, ne_eq] at hb) | ((with_reducible refine new_intro (fun _ hb => ?_)); try simp only [set_none, ne_eq] at hb) | (with_reducible refine draw_same ?_) | ((with_reducible refine gd_split ?_ (fun _ => ?_) (fun _ => ?_)); exact rfl) | ((with_reducible refine td_split ?_ (fun _ => ?_) (fun _ => ?_)); exact rfl) | (with_reducible refine c_split (fun _ => ?_) (fun _ => ?_)))
  have rl : ∀ n, (repl [.int .i64 0, .slice none 0 0] n).length = n * 2 := fun n => by
    induction n with
    | zero => rfl
    | succ n ih => simp only [repl, List.length_append, ih, List.length_cons, List.length_nil]; omega
  refine for_rule ts.length (fun k fr C => ∃ (vs : List Value) (bf : Nat → List Nat), AHeap.le H C ∧ Kn C b ⟨vs, true, 179, ts.length * 2⟩ ∧ vs.length = ts.length * 2 ∧ OPk H C b 1 0 ts k vs bf ∧ fr 0 = .slice A ts.length c ∧ fr 3 = .slice (some ⟨b, 0, none⟩) ts.length ts.length ∧ fr 4 = .int .i64 k)
    ⟨_, fun _ => [], (AHeap.le.refl H).fresh hb _, Kn.same _ _ _, rl _, fun i _ hi => absurd hi (Nat.not_lt_zero _), (by first | rfl | (simp only [put_at, ↓reduceIte, Nat.reduceEqDiff]; first | done | rfl | assumption) | simp [put_at, *]), (by first | rfl | (simp only [put_at, ↓reduceIte, Nat.reduceEqDiff]; first | done | rfl | assumption) | simp [put_at, *]), (by first | rfl | (simp only [put_at, ↓reduceIte, Nat.reduceEqDiff]; first | done | rfl | assumption) | simp [put_at, *])⟩ ?_ ?_
  · rintro k fr C hk ⟨vs, bf, hle, kn, hvl, hrow, f0, f3, f4⟩ N hN
    have g0 := lt_dec hk
    have g1 := rng hk
    have g2 := up1 hk (by omega)
    obtain ⟨q1, A', c', q2, fl⟩ := (hx.le hle).rd1 hk
    repeat' (first | simp -implicitDefEqProofs only [zG1,zG2,zG3,zG4,zG5,zG6,zG7,eq_self,resV,rval,X.val,binv,fillL,setR,↓reduceIte,Nat.reduceEqDiff,Nat.reduceAdd,Nat.reduceMul,Nat.reduceLeDiff,Nat.reduceLT,Nat.reduceSub,reduceCtorEq,zGp, f0, f3, f4, g0, g1, g2, q1, q2, adr_lit, Nat.zero_add] | ((with_reducible refine rows_intro (fun _ hb => ?_)); try simp only [set_none, ne_eq] at hb) | ((with_reducible refine new_intro (fun _ hb => ?_)); try simp only [set_none, ne_eq] at hb) | (with_reducible refine draw_same ?_) | ((with_reducible refine gd_split ?_ (fun _ => ?_) (fun _ => ?_)); exact rfl) | ((with_reducible refine td_split ?_ (fun _ => ?_) (fun _ => ?_)); exact rfl) | (with_reducible refine c_split (fun _ => ?_) (fun _ => ?_)))
    refine toBox_ok _ _ _ A' c' ts[k].1 ts[k].2 fl (hL _ (List.getElem_mem hk)) (fun v5 C5 bs5 l5 n5 w5 => ?_)
    obtain ⟨A5, c5, rfl, -⟩ := w5.fl
    have kn5 := kn.trans l5
    repeat' (first | simp -implicitDefEqProofs only [zG1,zG2,zG3,zG4,zG5,zG6,zG7,eq_self,resV,rval,X.val,binv,fillL,setR,↓reduceIte,Nat.reduceEqDiff,Nat.reduceAdd,Nat.reduceMul,Nat.reduceLeDiff,Nat.reduceLT,Nat.reduceSub,reduceCtorEq,zGp, f0, f3, f4, g1, adr_lit, Nat.zero_add] | ((with_reducible refine rows_intro (fun _ hb => ?_)); try simp only [set_none, ne_eq] at hb) | ((with_reducible refine new_intro (fun _ hb => ?_)); try simp only [set_none, ne_eq] at hb) | (with_reducible refine draw_same ?_) | ((with_reducible refine gd_split ?_ (fun _ => ?_) (fun _ => ?_)); exact rfl) | ((with_reducible refine td_split ?_ (fun _ => ?_) (fun _ => ?_)); exact rfl) | (with_reducible refine c_split (fun _ => ?_) (fun _ => ?_)))
    refine st_kn kn5 rfl rfl (by simp only; rw [hvl]; show k * 2 + 2 ≤ _; omega) (by simp [vcA, Value.oneCell']) (fun C6 hc6 ho6 k6 => ?_)
    have k6' : Kn C6 b ⟨setR vs (k * 2) [.int .i64 ts[k].2, .slice A5 ts[k].1.length c5], true, 179, ts.length * 2⟩ := k6
    have gs : ∀ j, (setR vs (k * 2) [.int .i64 ts[k].2, .slice A5 ts[k].1.length c5])[j]? = if k * 2 ≤ j ∧ j < k * 2 + 2 then ([.int .i64 ts[k].2, .slice A5 ts[k].1.length c5])[j - k * 2]? else vs[j]? := fun j => by
      rw [getElem?_setR _ _ _ _ (by rw [hvl]; show k * 2 + 2 ≤ _; omega)]; rfl
    repeat' (first | simp -implicitDefEqProofs only [zG1,zG2,zG3,zG4,zG5,zG6,zG7,eq_self,resV,rval,X.val,binv,fillL,setR,↓reduceIte,Nat.reduceEqDiff,Nat.reduceAdd,Nat.reduceMul,Nat.reduceLeDiff,Nat.reduceLT,Nat.reduceSub,reduceCtorEq,zGp, f0, f3, f4, g2] | ((with_reducible refine rows_intro (fun _ hb => ?_)); try simp only [set_none, ne_eq] at hb) | ((with_reducible refine new_intro (fun _ hb => ?_)); try simp only [set_none, ne_eq] at hb) | (with_reducible refine draw_same ?_) | ((with_reducible refine gd_split ?_ (fun _ => ?_) (fun _ => ?_)); exact rfl) | ((with_reducible refine td_split ?_ (fun _ => ?_) (fun _ => ?_)); exact rfl) | (with_reducible refine c_split (fun _ => ?_) (fun _ => ?_)))
    refine hN _ _ _ (.refl _) ⟨_, _, hc6.keep (hle.trans l5) (New.one hb), k6', ?_, hrow.put hk hle l5 n5 w5 hc6 kn.ne (fun j hj => ?_) ?_ ?_ (by decide) (by decide), (by first | rfl | (simp only [put_at, ↓reduceIte, Nat.reduceEqDiff]; first | done | rfl | assumption) | simp [put_at, *]), (by first | rfl | (simp only [put_at, ↓reduceIte, Nat.reduceEqDiff]; first | done | rfl | assumption) | simp [put_at, *]), (by first | rfl | (simp only [put_at, ↓reduceIte, Nat.reduceEqDiff]; first | done | rfl | assumption) | simp [put_at, *])⟩
    · rw [length_setR]; exact hvl
    · rw [gs, if_neg hj]
    · rw [gs, if_pos (by omega), Nat.add_sub_cancel_left]; rfl
    · rw [gs, if_pos (by omega), Nat.add_sub_cancel_left]; rfl
  · rintro fr C ⟨vs, bf, hle, kn, hvl, hrow, f0, f3, f4⟩ N
    have g0 : decide ((ts.length : Int) < (ts.length : Int)) = false := by simp
    repeat' (first | simp -implicitDefEqProofs only [zG1,zG2,zG3,zG4,zG5,zG6,zG7,eq_self,resV,rval,X.val,binv,fillL,setR,↓reduceIte,Nat.reduceEqDiff,Nat.reduceAdd,Nat.reduceMul,Nat.reduceLeDiff,Nat.reduceLT,Nat.reduceSub,reduceCtorEq,zGp, f0, f3, f4, g0] | ((with_reducible refine rows_intro (fun _ hb => ?_)); try simp only [set_none, ne_eq] at hb) | ((with_reducible refine new_intro (fun _ hb => ?_)); try simp only [set_none, ne_eq] at hb) | (with_reducible refine draw_same ?_) | ((with_reducible refine gd_split ?_ (fun _ => ?_) (fun _ => ?_)); exact rfl) | ((with_reducible refine td_split ?_ (fun _ => ?_) (fun _ => ?_)); exact rfl) | (with_reducible refine c_split (fun _ => ?_) (fun _ => ?_)))
    obtain ⟨r1, r2, r3⟩ := hrow.op kn hvl (by simp only [maxLen]; omega) hb
    exact ret_same (h _ _ _ hle r2 r3 r1)
end Go.Proofs.Ytfjhjfddgdokgaa
namespace Go.Proofs.Ytfjhjfddgdokgaa
set_option linter.all false
open Go Go.RowKit
set_option maxRecDepth 100000
variable (w0 : World)
/-- No block stands in both. -/
abbrev Apart (a b : List Nat) : Prop := ∀ y, y ∈ a → ¬ y ∈ b
theorem Chg.kept {C C' : AHeap} {bs : List Nat} {y : Nat} (hc : Chg C C' bs) (h : C y ≠ none) (hd : ¬ y ∈ bs) : C' y ≠ none := by
  cases e : C y with
  | none => exact absurd e h
  | some k => exact (hc y k hd e).ne
theorem le_kept {C C' : AHeap} {y : Nat} (l : AHeap.le C C') (h : C y ≠ none) : C' y ≠ none := fun e => h (l.none e)
/-- A crew's rows, all of the call's own, no two in the same block. -/
structure OwC (C : AHeap) (c : Cr) (v0 v1 v2 v5 : Value) (b0 b1 b2 b5 : List Nat) : Prop where
  r0 : Rs C 29 111 5 v0 (c.codes.map qcells) b0
  r1 : OP C 125 0 1 v1 c.threads b1
  r2 : OP C 179 1 0 v2 c.boxes b2
  r5 : Rw C 3 1 v5 c.log.length (ints c.log) b5
  d01 : Apart b1 b0
  d02 : Apart b2 b0
  d05 : Apart b5 b0
  d12 : Apart b2 b1
  d15 : Apart b5 b1
  d25 : Apart b5 b2
  kn : ∀ y, y ∈ b0 ++ (b1 ++ (b2 ++ b5)) → C y ≠ none
theorem Apart.symm {a b : List Nat} (h : Apart a b) : Apart b a := fun y h1 h2 => h y h2 h1
theorem OwC.trans {C C' : AHeap} {c : Cr} {v0 v1 v2 v5 : Value} {b0 b1 b2 b5 : List Nat} (h : OwC C c v0 v1 v2 v5 b0 b1 b2 b5) (l : AHeap.le C C') : OwC C' c v0 v1 v2 v5 b0 b1 b2 b5 :=
  ⟨h.r0.trans l, h.r1.trans l, h.r2.trans l, h.r5.trans l, h.d01, h.d02, h.d05, h.d12, h.d15, h.d25, fun y hy => le_kept l (h.kn y hy)⟩
theorem OwC.chg {C C' : AHeap} {c : Cr} {v0 v1 v2 v5 : Value} {b0 b1 b2 b5 bs : List Nat} (h : OwC C c v0 v1 v2 v5 b0 b1 b2 b5) (hc : Chg C C' bs) (h0 : Apart b0 bs) (h1 : Apart b1 bs) (h2 : Apart b2 bs) (h5 : Apart b5 bs) : OwC C' c v0 v1 v2 v5 b0 b1 b2 b5 :=
  ⟨h.r0.chg hc h0, h.r1.chg hc h1, h.r2.chg hc h2, h.r5.chg hc h5, h.d01, h.d02, h.d05, h.d12, h.d15, h.d25, fun y hy => hc.kept (h.kn y hy) (by
    simp only [List.mem_append] at hy
    rcases hy with hy | hy | hy | hy
    · exact h0 y hy
    · exact h1 y hy
    · exact h2 y hy
    · exact h5 y hy)⟩
theorem OwC.crR {C : AHeap} {c : Cr} {v0 v1 v2 v5 : Value} {b0 b1 b2 b5 : List Nat} (h : OwC C c v0 v1 v2 v5 b0 b1 b2 b5) : ∃ B0 e0 B1 e1 B2 e2 B5 e5, v0 = .slice B0 c.codes.length e0 ∧ v1 = .slice B1 c.threads.length e1 ∧ v2 = .slice B2 c.boxes.length e2 ∧ v5 = .slice B5 c.log.length e5 ∧ CrR C c B0 B1 B2 B5 := by
  have r0 := h.r0
  have r1 := h.r1
  have r2 := h.r2
  obtain ⟨B0, e0, rfl⟩ := r0.slice
  obtain ⟨B1, e1, rfl⟩ := r1.slice
  obtain ⟨B2, e2, rfl⟩ := r2.slice
  obtain ⟨B5, e5, rfl, f5⟩ := h.r5.fl
  exact ⟨B0, e0, B1, e1, B2, e2, B5, e5, by rw [List.length_map], rfl, rfl, rfl, ⟨r0.fr, r1.fp.1, r2.fp.1, f5⟩⟩
theorem st_own {C : AHeap} {K : Value → AHeap → Prop} {x o n n' : Nat} {t : TypeId} {cs : List Value} {v : Value} (k : Kn C x ⟨cs, true, t, n'⟩) (vs : List Value) (hv : v.cells = vs.toArray) (hn : vs.length = n) (hl : o + n ≤ cs.length) (h1 : ∀ u ∈ vs, u.oneCell' = true)
    (h : ∀ C', Chg C C' [x] → Kn C' x ⟨setR cs o vs, true, t, n'⟩ → K undef C') : stK n (.pointer (some ⟨x, o, none⟩)) v K C := by
  refine st_kn k rfl (by rw [hv]; simpa using hn) hl (by rw [hv]; exact h1) (fun C' hc ho k => ?_)
  rw [hv] at k
  exact h C' hc k
section
variable (H : AHeap) (K : Value → AHeap → Prop) (c : Cr) (A0 : Option Addr) (c0 : Nat) (A1 : Option Addr) (c1 : Nat) (A2 : Option Addr) (c2 : Nat) (A5 : Option Addr) (c5 : Nat)
abbrev crz : List Value := [.slice none 0 0, .slice none 0 0, .slice none 0 0, .int .i64 0, .int .i64 0, .slice none 0 0]
theorem toCrew_own (hc : CrR H c A0 A1 A2 A5) (hb : CrB 1048576 c) (h : ∀ v0 v1 v2 v5 b0 b1 b2 b5 C, AHeap.le H C → OwC C c v0 v1 v2 v5 b0 b1 b2 b5 → New H b0 → New H b1 → New H b2 → New H b5 → K (.agg #[v0, v1, v2, .int .i64 c.turn, .int .i64 c.last, v5]) C) : ACalls Try.prog w0 34 [crv c A0 c0 A1 c1 A2 c2 A5 c5] H K := by
  refine acalls_of_sx mix Try.func34 of34 (by simp [ir34]) ?_; rw [ir34]; (try delta qT qI qC qO qM qG)
  repeat' (first | simp -implicitDefEqProofs only [zG1,zG2,zG3,zG4,zG5,zG6,zG7,eq_self,resV,rval,X.val,binv,fillL,setR,↓reduceIte,Nat.reduceEqDiff,Nat.reduceAdd,Nat.reduceMul,Nat.reduceLeDiff,Nat.reduceLT,Nat.reduceSub,reduceCtorEq,zGq])
  refine new_intro (fun x1 h1 => ?_)
  repeat' (first | simp -implicitDefEqProofs only [zG1,zG2,zG3,zG4,zG5,zG6,zG7,eq_self,resV,rval,X.val,binv,fillL,setR,↓reduceIte,Nat.reduceEqDiff,Nat.reduceAdd,Nat.reduceMul,Nat.reduceLeDiff,Nat.reduceLT,Nat.reduceSub,reduceCtorEq,zGq])
  refine new_intro (fun x2 h2 => ?_)
  repeat' (first | simp -implicitDefEqProofs only [zG1,zG2,zG3,zG4,zG5,zG6,zG7,eq_self,resV,rval,X.val,binv,fillL,setR,↓reduceIte,Nat.reduceEqDiff,Nat.reduceAdd,Nat.reduceMul,Nat.reduceLeDiff,Nat.reduceLT,Nat.reduceSub,reduceCtorEq,zGq])
  refine new_intro (fun x3 h3 => ?_)
  simp only [set_none, ne_eq] at h2 h3
  have l0 : AHeap.le H (((H.set x1 ⟨crc c A0 c0 A1 c1 A2 c2 A5 c5, true, 56, 6⟩).set x2 ⟨crz, true, 62, 6⟩).set x3 ⟨crz, true, 62, 6⟩) := ((AHeap.le.refl H).fresh h1 _).fresh (set_none.2 h2) _ |>.fresh (set_none.2 ⟨h3.1, set_none.2 h3.2⟩) _
  have k1 : Kn (((H.set x1 ⟨crc c A0 c0 A1 c1 A2 c2 A5 c5, true, 56, 6⟩).set x2 ⟨crz, true, 62, 6⟩).set x3 ⟨crz, true, 62, 6⟩) x1 ⟨crc c A0 c0 A1 c1 A2 c2 A5 c5, true, 56, 6⟩ := ((Kn.same _ _ _).set (fun e => h2.1 e.symm) _).set (fun e => h3.2.1 e.symm) _
  have k2 : Kn (((H.set x1 ⟨crc c A0 c0 A1 c1 A2 c2 A5 c5, true, 56, 6⟩).set x2 ⟨crz, true, 62, 6⟩).set x3 ⟨crz, true, 62, 6⟩) x2 ⟨crz, true, 62, 6⟩ := (Kn.same _ _ _).set (fun e => h3.1 e.symm) _
  have k3 : Kn (((H.set x1 ⟨crc c A0 c0 A1 c1 A2 c2 A5 c5, true, 56, 6⟩).set x2 ⟨crz, true, 62, 6⟩).set x3 ⟨crz, true, 62, 6⟩) x3 ⟨crz, true, 62, 6⟩ := Kn.same _ _ _
  generalize (((H.set x1 _).set x2 _).set x3 _) = C at l0 k1 k2 k3 ⊢
  have n13 : ¬ x1 ∈ [x3] := by simpa using fun e : x1 = x3 => h3.2.1 e.symm
  have n23 : ¬ x2 ∈ [x3] := by simpa using fun e : x2 = x3 => h3.1 e.symm
  have g := kn6 k1
  repeat' (first | simp -implicitDefEqProofs only [zG1,zG2,zG3,zG4,zG5,zG6,zG7,eq_self,resV,rval,X.val,binv,fillL,setR,↓reduceIte,Nat.reduceEqDiff,Nat.reduceAdd,Nat.reduceMul,Nat.reduceLeDiff,Nat.reduceLT,Nat.reduceSub,reduceCtorEq,zGq, g])
  have L := l0
  refine toQuadSS_ok _ _ _ A0 c0 _ (hc.f0.le L) hb.n0 hb.m0 (fun v0 C1 b0' l0 n0' r0' => ?_)
  obtain ⟨b0, s0, t0, r0⟩ := r0'.tight
  have n0 : New C b0 := fun y hy => n0' y (s0 y hy)
  clear r0' n0' s0
  have m0 := n0
  have u0 : ∀ y, y ∈ [x3] → ¬ y ∈ b0 := fun y hy hm => by
    simp only [List.mem_cons, List.not_mem_nil, or_false] at hy; subst hy; exact k3.ne (n0 _ hm)
  have y0 : ¬ x2 ∈ b0 := fun hm => k2.ne (n0 _ hm)
  replace n0 := n0.le L
  replace k1 := k1.trans l0
  replace k2 := k2.trans l0
  replace k3 := k3.trans l0
  replace L := L.trans l0
  have g := kn6 k1
  obtain ⟨V0, e0, rfl⟩ := r0.slice
  repeat' (first | simp -implicitDefEqProofs only [zG1,zG2,zG3,zG4,zG5,zG6,zG7,eq_self,resV,rval,X.val,binv,fillL,setR,↓reduceIte,Nat.reduceEqDiff,Nat.reduceAdd,Nat.reduceMul,Nat.reduceLeDiff,Nat.reduceLT,Nat.reduceSub,reduceCtorEq,zGq, g])
  refine st_own k3 [_] rfl rfl (by simp) (by simp [ocS, ocI]) (fun C2 hc2 k3 => ?_)
  simp only [setR, List.set_cons_zero, List.set_cons_succ, List.length_map] at k3
  replace k1 := k1.chg hc2 n13
  replace k2 := k2.chg hc2 n23
  replace r0 := r0.chg hc2 fun y h1 h2 => u0 y h2 h1
  replace t0 : ∀ y, y ∈ b0 → C2 y ≠ none := fun y hy => hc2.kept (t0 y hy) fun h2 => u0 y h2 hy
  replace L := hc2.keep L (New.one h3.2.2)
  have g := kn6 k1
  repeat' (first | simp -implicitDefEqProofs only [zG1,zG2,zG3,zG4,zG5,zG6,zG7,eq_self,resV,rval,X.val,binv,fillL,setR,↓reduceIte,Nat.reduceEqDiff,Nat.reduceAdd,Nat.reduceMul,Nat.reduceLeDiff,Nat.reduceLT,Nat.reduceSub,reduceCtorEq,zGq, g])
  refine toThreadS_own _ _ _ A1 c1 _ (hc.f1.le L) hb.n1 hb.m1 (fun v1 C3 b1 l1 n1 t1 r1 => ?_)
  have m1 := n1
  have u1 : ∀ y, y ∈ [x3] → ¬ y ∈ b1 := fun y hy hm => by
    simp only [List.mem_cons, List.not_mem_nil, or_false] at hy; subst hy; exact k3.ne (n1 _ hm)
  have y1 : ¬ x2 ∈ b1 := fun hm => k2.ne (n1 _ hm)
  replace n1 := n1.le L
  have d01 : Apart b1 b0 := fun y h1 h2 => t0 y h2 (m1 _ h1)
  replace r0 := r0.trans l1
  replace t0 : ∀ y, y ∈ b0 → C3 y ≠ none := fun y hy => le_kept l1 (t0 y hy)
  replace k1 := k1.trans l1
  replace k2 := k2.trans l1
  replace k3 := k3.trans l1
  replace L := L.trans l1
  have g := kn6 k1
  obtain ⟨V1, e1, rfl⟩ := r1.slice
  repeat' (first | simp -implicitDefEqProofs only [zG1,zG2,zG3,zG4,zG5,zG6,zG7,eq_self,resV,rval,X.val,binv,fillL,setR,↓reduceIte,Nat.reduceEqDiff,Nat.reduceAdd,Nat.reduceMul,Nat.reduceLeDiff,Nat.reduceLT,Nat.reduceSub,reduceCtorEq,zGq, g])
  refine st_own k3 [_] rfl rfl (by simp) (by simp [ocS, ocI]) (fun C4 hc4 k3 => ?_)
  simp only [setR, List.set_cons_zero, List.set_cons_succ, List.length_map] at k3
  replace k1 := k1.chg hc4 n13
  replace k2 := k2.chg hc4 n23
  replace r0 := r0.chg hc4 fun y h1 h2 => u0 y h2 h1
  replace t0 : ∀ y, y ∈ b0 → C4 y ≠ none := fun y hy => hc4.kept (t0 y hy) fun h2 => u0 y h2 hy
  replace r1 := r1.chg hc4 fun y h1 h2 => u1 y h2 h1
  replace t1 : ∀ y, y ∈ b1 → C4 y ≠ none := fun y hy => hc4.kept (t1 y hy) fun h2 => u1 y h2 hy
  replace L := hc4.keep L (New.one h3.2.2)
  have g := kn6 k1
  repeat' (first | simp -implicitDefEqProofs only [zG1,zG2,zG3,zG4,zG5,zG6,zG7,eq_self,resV,rval,X.val,binv,fillL,setR,↓reduceIte,Nat.reduceEqDiff,Nat.reduceAdd,Nat.reduceMul,Nat.reduceLeDiff,Nat.reduceLT,Nat.reduceSub,reduceCtorEq,zGq, g])
  refine toBoxS_own _ _ _ A2 c2 _ (hc.f2.le L) hb.n2 hb.m2 (fun v2 C5 b2 l2 n2 t2 r2 => ?_)
  have m2 := n2
  have u2 : ∀ y, y ∈ [x3] → ¬ y ∈ b2 := fun y hy hm => by
    simp only [List.mem_cons, List.not_mem_nil, or_false] at hy; subst hy; exact k3.ne (n2 _ hm)
  have y2 : ¬ x2 ∈ b2 := fun hm => k2.ne (n2 _ hm)
  replace n2 := n2.le L
  have d02 : Apart b2 b0 := fun y h1 h2 => t0 y h2 (m2 _ h1)
  replace r0 := r0.trans l2
  replace t0 : ∀ y, y ∈ b0 → C5 y ≠ none := fun y hy => le_kept l2 (t0 y hy)
  have d12 : Apart b2 b1 := fun y h1 h2 => t1 y h2 (m2 _ h1)
  replace r1 := r1.trans l2
  replace t1 : ∀ y, y ∈ b1 → C5 y ≠ none := fun y hy => le_kept l2 (t1 y hy)
  replace k1 := k1.trans l2
  replace k2 := k2.trans l2
  replace k3 := k3.trans l2
  replace L := L.trans l2
  have g := kn6 k1
  obtain ⟨V2, e2, rfl⟩ := r2.slice
  repeat' (first | simp -implicitDefEqProofs only [zG1,zG2,zG3,zG4,zG5,zG6,zG7,eq_self,resV,rval,X.val,binv,fillL,setR,↓reduceIte,Nat.reduceEqDiff,Nat.reduceAdd,Nat.reduceMul,Nat.reduceLeDiff,Nat.reduceLT,Nat.reduceSub,reduceCtorEq,zGq, g])
  refine st_own k3 [_] rfl rfl (by simp) (by simp [ocS, ocI]) (fun C6 hc6 k3 => ?_)
  simp only [setR, List.set_cons_zero, List.set_cons_succ, List.length_map] at k3
  replace k1 := k1.chg hc6 n13
  replace k2 := k2.chg hc6 n23
  replace r0 := r0.chg hc6 fun y h1 h2 => u0 y h2 h1
  replace t0 : ∀ y, y ∈ b0 → C6 y ≠ none := fun y hy => hc6.kept (t0 y hy) fun h2 => u0 y h2 hy
  replace r1 := r1.chg hc6 fun y h1 h2 => u1 y h2 h1
  replace t1 : ∀ y, y ∈ b1 → C6 y ≠ none := fun y hy => hc6.kept (t1 y hy) fun h2 => u1 y h2 hy
  replace r2 := r2.chg hc6 fun y h1 h2 => u2 y h2 h1
  replace t2 : ∀ y, y ∈ b2 → C6 y ≠ none := fun y hy => hc6.kept (t2 y hy) fun h2 => u2 y h2 hy
  replace L := hc6.keep L (New.one h3.2.2)
  have g := kn6 k1
  repeat' (first | simp -implicitDefEqProofs only [zG1,zG2,zG3,zG4,zG5,zG6,zG7,eq_self,resV,rval,X.val,binv,fillL,setR,↓reduceIte,Nat.reduceEqDiff,Nat.reduceAdd,Nat.reduceMul,Nat.reduceLeDiff,Nat.reduceLT,Nat.reduceSub,reduceCtorEq,zGq, g])
  refine st_own k3 [_] rfl rfl (by simp) (by simp [ocS, ocI]) (fun C7 hc7 k3 => ?_)
  simp only [setR, List.set_cons_zero, List.set_cons_succ, List.length_map] at k3
  replace k1 := k1.chg hc7 n13
  replace k2 := k2.chg hc7 n23
  replace r0 := r0.chg hc7 fun y h1 h2 => u0 y h2 h1
  replace t0 : ∀ y, y ∈ b0 → C7 y ≠ none := fun y hy => hc7.kept (t0 y hy) fun h2 => u0 y h2 hy
  replace r1 := r1.chg hc7 fun y h1 h2 => u1 y h2 h1
  replace t1 : ∀ y, y ∈ b1 → C7 y ≠ none := fun y hy => hc7.kept (t1 y hy) fun h2 => u1 y h2 hy
  replace r2 := r2.chg hc7 fun y h1 h2 => u2 y h2 h1
  replace t2 : ∀ y, y ∈ b2 → C7 y ≠ none := fun y hy => hc7.kept (t2 y hy) fun h2 => u2 y h2 hy
  replace L := hc7.keep L (New.one h3.2.2)
  have g := kn6 k1
  repeat' (first | simp -implicitDefEqProofs only [zG1,zG2,zG3,zG4,zG5,zG6,zG7,eq_self,resV,rval,X.val,binv,fillL,setR,↓reduceIte,Nat.reduceEqDiff,Nat.reduceAdd,Nat.reduceMul,Nat.reduceLeDiff,Nat.reduceLT,Nat.reduceSub,reduceCtorEq,zGq, g])
  refine st_own k3 [_] rfl rfl (by simp) (by simp [ocS, ocI]) (fun C8 hc8 k3 => ?_)
  simp only [setR, List.set_cons_zero, List.set_cons_succ, List.length_map] at k3
  replace k1 := k1.chg hc8 n13
  replace k2 := k2.chg hc8 n23
  replace r0 := r0.chg hc8 fun y h1 h2 => u0 y h2 h1
  replace t0 : ∀ y, y ∈ b0 → C8 y ≠ none := fun y hy => hc8.kept (t0 y hy) fun h2 => u0 y h2 hy
  replace r1 := r1.chg hc8 fun y h1 h2 => u1 y h2 h1
  replace t1 : ∀ y, y ∈ b1 → C8 y ≠ none := fun y hy => hc8.kept (t1 y hy) fun h2 => u1 y h2 hy
  replace r2 := r2.chg hc8 fun y h1 h2 => u2 y h2 h1
  replace t2 : ∀ y, y ∈ b2 → C8 y ≠ none := fun y hy => hc8.kept (t2 y hy) fun h2 => u2 y h2 hy
  replace L := hc8.keep L (New.one h3.2.2)
  have g := kn6 k1
  repeat' (first | simp -implicitDefEqProofs only [zG1,zG2,zG3,zG4,zG5,zG6,zG7,eq_self,resV,rval,X.val,binv,fillL,setR,↓reduceIte,Nat.reduceEqDiff,Nat.reduceAdd,Nat.reduceMul,Nat.reduceLeDiff,Nat.reduceLT,Nat.reduceSub,reduceCtorEq,zGq, g])
  refine toIntS_ok _ _ _ A5 c5 _ (hc.f5.le L) hb.n5 (fun v5 C9 b5 l5 n5 r5 => ?_)
  have t5 := rw_kn r5
  have m5 := n5
  have u5 : ∀ y, y ∈ [x3] → ¬ y ∈ b5 := fun y hy hm => by
    simp only [List.mem_cons, List.not_mem_nil, or_false] at hy; subst hy; exact k3.ne (n5 _ hm)
  have y5 : ¬ x2 ∈ b5 := fun hm => k2.ne (n5 _ hm)
  replace n5 := n5.le L
  have d05 : Apart b5 b0 := fun y h1 h2 => t0 y h2 (m5 _ h1)
  replace r0 := r0.trans l5
  replace t0 : ∀ y, y ∈ b0 → C9 y ≠ none := fun y hy => le_kept l5 (t0 y hy)
  have d15 : Apart b5 b1 := fun y h1 h2 => t1 y h2 (m5 _ h1)
  replace r1 := r1.trans l5
  replace t1 : ∀ y, y ∈ b1 → C9 y ≠ none := fun y hy => le_kept l5 (t1 y hy)
  have d25 : Apart b5 b2 := fun y h1 h2 => t2 y h2 (m5 _ h1)
  replace r2 := r2.trans l5
  replace t2 : ∀ y, y ∈ b2 → C9 y ≠ none := fun y hy => le_kept l5 (t2 y hy)
  replace k1 := k1.trans l5
  replace k2 := k2.trans l5
  replace k3 := k3.trans l5
  replace L := L.trans l5
  have g := kn6 k1
  obtain ⟨V5, e5, rfl, -⟩ := r5.fl
  repeat' (first | simp -implicitDefEqProofs only [zG1,zG2,zG3,zG4,zG5,zG6,zG7,eq_self,resV,rval,X.val,binv,fillL,setR,↓reduceIte,Nat.reduceEqDiff,Nat.reduceAdd,Nat.reduceMul,Nat.reduceLeDiff,Nat.reduceLT,Nat.reduceSub,reduceCtorEq,zGq, g])
  refine st_own k3 [_] rfl rfl (by simp) (by simp [ocS, ocI]) (fun C10 hc10 k3 => ?_)
  simp only [setR, List.set_cons_zero, List.set_cons_succ, List.length_map] at k3
  replace k1 := k1.chg hc10 n13
  replace k2 := k2.chg hc10 n23
  replace r0 := r0.chg hc10 fun y h1 h2 => u0 y h2 h1
  replace t0 : ∀ y, y ∈ b0 → C10 y ≠ none := fun y hy => hc10.kept (t0 y hy) fun h2 => u0 y h2 hy
  replace r1 := r1.chg hc10 fun y h1 h2 => u1 y h2 h1
  replace t1 : ∀ y, y ∈ b1 → C10 y ≠ none := fun y hy => hc10.kept (t1 y hy) fun h2 => u1 y h2 hy
  replace r2 := r2.chg hc10 fun y h1 h2 => u2 y h2 h1
  replace t2 : ∀ y, y ∈ b2 → C10 y ≠ none := fun y hy => hc10.kept (t2 y hy) fun h2 => u2 y h2 hy
  replace r5 := r5.chg hc10 fun y h1 h2 => u5 y h2 h1
  replace t5 : ∀ y, y ∈ b5 → C10 y ≠ none := fun y hy => hc10.kept (t5 y hy) fun h2 => u5 y h2 hy
  replace L := hc10.keep L (New.one h3.2.2)
  have g := kn6 k1
  have g3 := kn6 k3
  repeat' (first | simp -implicitDefEqProofs only [zG1,zG2,zG3,zG4,zG5,zG6,zG7,eq_self,resV,rval,X.val,binv,fillL,setR,↓reduceIte,Nat.reduceEqDiff,Nat.reduceAdd,Nat.reduceMul,Nat.reduceLeDiff,Nat.reduceLT,Nat.reduceSub,reduceCtorEq,zGq, g3])
  refine st_own k2 _ (by rw [vcA]) rfl (by simp) (by simp [ocI, ocS]) (fun C11 hc11 k2 => ?_)
  simp only [setR, List.set_cons_zero, List.set_cons_succ] at k2
  replace L := hc11.keep L (New.one h2.2)
  have z : ∀ {bs : List Nat}, ¬ x2 ∈ bs → Apart bs [x2] := fun h y hy hm => by
    simp only [List.mem_cons, List.not_mem_nil, or_false] at hm; subst hm; exact h hy
  replace r0 := r0.chg hc11 (z y0)
  replace r1 := r1.chg hc11 (z y1)
  replace r2 := r2.chg hc11 (z y2)
  replace r5 := r5.chg hc11 (z y5)
  have g := kn6 k2
  repeat' (first | simp -implicitDefEqProofs only [zG1,zG2,zG3,zG4,zG5,zG6,zG7,eq_self,resV,rval,X.val,binv,fillL,setR,↓reduceIte,Nat.reduceEqDiff,Nat.reduceAdd,Nat.reduceMul,Nat.reduceLeDiff,Nat.reduceLT,Nat.reduceSub,reduceCtorEq,zGq, g])
  exact ret_same (h _ _ _ _ b0 b1 b2 b5 _ L ⟨by simpa only [List.length_map] using r0, r1, r2, r5, d01, d02, d05, d12, d15, d25, fun y hy => by
    simp only [List.mem_append] at hy
    rcases hy with hy | hy | hy | hy
    · exact hc11.kept (t0 y hy) (z y0 y hy)
    · exact hc11.kept (t1 y hy) (z y1 y hy)
    · exact hc11.kept (t2 y hy) (z y2 y hy)
    · exact hc11.kept (t5 y hy) (z y5 y hy)⟩ n0 n1 n2 n5)
end
/-- The valid crews. -/
def crewPre (c : Cr) : Bool := turnsOk c.codes.length c.turn c.last c.log && decide (c.threads.length = c.codes.length) && boxesOk c.boxes
def crewOk (c : Cr) : Bool := crewPre c && (c.threads.zip c.codes).all fun x => threadValid x.1.1 x.1.2 x.2 && codeThere x.2 c.boxes.length
theorem crewOk_pre {c : Cr} (h : crewPre c = false) : crewOk c = false := by rw [crewOk, h]; rfl
theorem crewOk_bad {c : Cr} {k : Nat} (h1 : k < c.threads.length) (h2 : k < c.codes.length) (h : (threadValid c.threads[k].1 c.threads[k].2 c.codes[k] && codeThere c.codes[k] c.boxes.length) = false) : crewOk c = false := by
  have : ((c.threads.zip c.codes).all fun x => threadValid x.1.1 x.1.2 x.2 && codeThere x.2 c.boxes.length) = false := by
    rw [List.all_eq_false]
    refine ⟨(c.threads[k], c.codes[k]), List.mem_iff_getElem.2 ⟨k, by rw [List.length_zip]; omega, by rw [List.getElem_zip]⟩, ?_⟩
    simp only [h]; simp
  rw [crewOk, this, Bool.and_false]
theorem crewOk_good {c : Cr} (h : crewPre c = true) (hk : ∀ k (h1 : k < c.threads.length) (h2 : k < c.codes.length), (threadValid c.threads[k].1 c.threads[k].2 c.codes[k] && codeThere c.codes[k] c.boxes.length) = true) : crewOk c = true := by
  rw [crewOk, h, Bool.true_and, List.all_eq_true]
  intro x hx
  obtain ⟨k, hk', rfl⟩ := List.mem_iff_getElem.1 hx
  rw [List.length_zip] at hk'
  rw [List.getElem_zip]
  exact hk k (by omega) (by omega)
end Go.Proofs.Ytfjhjfddgdokgaa
namespace Go.Proofs.Ytfjhjfddgdokgaa
set_option linter.all false
open Go Go.RowKit
set_option maxRecDepth 100000
variable (w0 : World)
theorem crewValid_ok (H : AHeap) (K : Value → AHeap → Prop) (c : Cr) (A0 : Option Addr) (c0 : Nat) (A1 : Option Addr) (c1 : Nat) (A2 : Option Addr) (c2 : Nat) (A5 : Option Addr) (c5 : Nat) (hc : CrR H c A0 A1 A2 A5) (hb : CrB 1048576 c) (h : K (.bool (crewOk c)) H) :
    ACalls Try.prog w0 35 [crv c A0 c0 A1 c1 A2 c2 A5 c5] H K := by
  have nc := hb.n0
  have nb := hb.n2
  refine acalls_of_sx mix Try.func35 of35 (by simp [ir35]) ?_; rw [ir35]; (try delta qT qI qC qO qM qG)
  repeat' (first | simp -implicitDefEqProofs only [zG1,zG2,zG3,zG4,zG5,zG6,zG7,eq_self,resV,rval,X.val,binv,fillL,setR,↓reduceIte,Nat.reduceEqDiff,Nat.reduceAdd,Nat.reduceMul,Nat.reduceLeDiff,Nat.reduceLT,Nat.reduceSub,reduceCtorEq,zGq])
  refine new_intro (fun x1 hx1 => ?_)
  have l1 := (AHeap.le.refl H).fresh hx1 ⟨crc c A0 c0 A1 c1 A2 c2 A5 c5, true, 62, 6⟩
  have k1 := Kn.same H x1 ⟨crc c A0 c0 A1 c1 A2 c2 A5 c5, true, 62, 6⟩
  generalize H.set x1 _ = C at l1 k1 ⊢
  have q := kn6 k1
  have hc' := hc.le l1
  cases e1 : turnsOk c.codes.length c.turn c.last c.log with
  | false =>
    rw [crewOk_pre (by rw [crewPre, e1]; rfl)] at h
    repeat' (first | simp -implicitDefEqProofs only [zG1,zG2,zG3,zG4,zG5,zG6,zG7,eq_self,resV,rval,X.val,binv,fillL,setR,↓reduceIte,Nat.reduceEqDiff,Nat.reduceAdd,Nat.reduceMul,Nat.reduceLeDiff,Nat.reduceLT,Nat.reduceSub,reduceCtorEq,zGq, q, e1] | (with_reducible refine turnsValid_ok _ _ _ _ _ _ A5 c5 _ hc'.f5 hb.n5 ?_))
    exact ⟨H, l1, h⟩
  | true =>
    by_cases hl : c.threads.length = c.codes.length
    case neg =>
      have e2 : ((c.threads.length : Int) != (c.codes.length : Int)) = true := by simp; omega
      rw [crewOk_pre (by rw [crewPre, e1, decide_eq_false hl]; rfl)] at h
      repeat' (first | simp -implicitDefEqProofs only [zG1,zG2,zG3,zG4,zG5,zG6,zG7,eq_self,resV,rval,X.val,binv,fillL,setR,↓reduceIte,Nat.reduceEqDiff,Nat.reduceAdd,Nat.reduceMul,Nat.reduceLeDiff,Nat.reduceLT,Nat.reduceSub,reduceCtorEq,zGq, q, e1, e2] | (with_reducible refine turnsValid_ok _ _ _ _ _ _ A5 c5 _ hc'.f5 hb.n5 ?_))
      exact ⟨H, l1, h⟩
    case pos =>
      have e2 : ((c.threads.length : Int) != (c.codes.length : Int)) = false := by simp; omega
      cases e3 : boxesOk c.boxes with
      | false =>
        rw [crewOk_pre (by rw [crewPre, e3, Bool.and_false])] at h
        repeat' (first | simp -implicitDefEqProofs only [zG1,zG2,zG3,zG4,zG5,zG6,zG7,eq_self,resV,rval,X.val,binv,fillL,setR,↓reduceIte,Nat.reduceEqDiff,Nat.reduceAdd,Nat.reduceMul,Nat.reduceLeDiff,Nat.reduceLT,Nat.reduceSub,reduceCtorEq,zGq, q, e1, e2, e3] | (with_reducible refine turnsValid_ok _ _ _ _ _ _ A5 c5 _ hc'.f5 hb.n5 ?_) | (with_reducible refine boxesValid_ok _ _ _ A2 c2 _ hc'.f2 hb.n2 hb.m2 ?_))
        exact ⟨H, l1, h⟩
      | true =>
        repeat' (first | simp -implicitDefEqProofs only [zG1,zG2,zG3,zG4,zG5,zG6,zG7,eq_self,resV,rval,X.val,binv,fillL,setR,↓reduceIte,Nat.reduceEqDiff,Nat.reduceAdd,Nat.reduceMul,Nat.reduceLeDiff,Nat.reduceLT,Nat.reduceSub,reduceCtorEq,zGq, q, e1, e2, e3] | (with_reducible refine turnsValid_ok _ _ _ _ _ _ A5 c5 _ hc'.f5 hb.n5 ?_) | (with_reducible refine boxesValid_ok _ _ _ A2 c2 _ hc'.f2 hb.n2 hb.m2 ?_))
        refine for_rule c.codes.length (fun k fr D => D = C ∧ (∀ i (h1 : i < c.threads.length) (h2 : i < c.codes.length), i < k → (threadValid c.threads[i].1 c.threads[i].2 c.codes[i] && codeThere c.codes[i] c.boxes.length) = true) ∧ fr 1 = .pointer (some ⟨x1, 0, none⟩) ∧ fr 34 = .slice A0 c.codes.length c0 ∧ fr 35 = .int .i64 c.codes.length ∧ fr 36 = .int .i64 k)
          ⟨rfl, fun i _ _ hi => absurd hi (Nat.not_lt_zero _), (by first | rfl | (simp only [put_at, ↓reduceIte, Nat.reduceEqDiff]; first | done | rfl | assumption) | simp [put_at, *]), (by first | rfl | (simp only [put_at, ↓reduceIte, Nat.reduceEqDiff]; first | done | rfl | assumption) | simp [put_at, *]), (by first | rfl | (simp only [put_at, ↓reduceIte, Nat.reduceEqDiff]; first | done | rfl | assumption) | simp [put_at, *]), (by first | rfl | (simp only [put_at, ↓reduceIte, Nat.reduceEqDiff]; first | done | rfl | assumption) | simp [put_at, *])⟩ ?_ ?_
        · rintro k fr D hk ⟨rfl, hw, f1, f34, f35, f36⟩ N hN
          have g0 := lt_dec hk
          have g1 := rng hk
          have g2 := up1 hk (by omega)
          have hk' : k < c.threads.length := by omega
          have g0' := lt_dec hk'
          have g1' := rng hk'
          obtain ⟨q1, A', c', q2, fl⟩ := hc'.f0 k hk
          obtain ⟨p1, B', d', p2, p3, fm⟩ := hc'.f1 k hk'
          rw [Nat.add_zero] at p2
          have hq := hb.m0 _ (List.getElem_mem hk)
          have hx := hb.m1 _ (List.getElem_mem hk')
          cases hv : threadValid c.threads[k].1 c.threads[k].2 c.codes[k] with
          | false =>
            rw [crewOk_bad hk' hk (by rw [hv]; rfl)] at h
            repeat' (first | simp -implicitDefEqProofs only [zG1,zG2,zG3,zG4,zG5,zG6,zG7,eq_self,resV,rval,X.val,binv,fillL,setR,↓reduceIte,Nat.reduceEqDiff,Nat.reduceAdd,Nat.reduceMul,Nat.reduceLeDiff,Nat.reduceLT,Nat.reduceSub,reduceCtorEq,zGq, q, f1, f34, f35, f36, g0, g1, g0', g1', q1, q2, p1, p2, p3, hv, Nat.mul_one] | (with_reducible refine threadValid_ok _ _ _ B' d' _ _ fm hx A' c' _ fl hq ?_))
            exact ⟨H, l1, h⟩
          | true =>
            repeat' (first | simp -implicitDefEqProofs only [zG1,zG2,zG3,zG4,zG5,zG6,zG7,eq_self,resV,rval,X.val,binv,fillL,setR,↓reduceIte,Nat.reduceEqDiff,Nat.reduceAdd,Nat.reduceMul,Nat.reduceLeDiff,Nat.reduceLT,Nat.reduceSub,reduceCtorEq,zGq, q, f1, f34, f35, f36, g0, g1, g0', g1', q1, q2, p1, p2, p3, hv, Nat.mul_one] | (with_reducible refine threadValid_ok _ _ _ B' d' _ _ fm hx A' c' _ fl hq ?_))
            refine for_rule c.codes[k].length (fun m fr E => E = D ∧ (∀ i (h1 : i < c.codes[k].length), i < m → quadThere c.codes[k][i] c.boxes.length = true) ∧ fr 1 = .pointer (some ⟨x1, 0, none⟩) ∧ fr 34 = .slice A0 c.codes.length c0 ∧ fr 35 = .int .i64 c.codes.length ∧ fr 36 = .int .i64 k ∧ fr 49 = .slice A' c.codes[k].length c' ∧ fr 50 = .int .i64 c.codes[k].length ∧ fr 51 = .int .i64 m)
              ⟨rfl, fun i _ hi => absurd hi (Nat.not_lt_zero _), (by first | rfl | (simp only [put_at, ↓reduceIte, Nat.reduceEqDiff]; first | done | rfl | assumption) | simp [put_at, *]), (by first | rfl | (simp only [put_at, ↓reduceIte, Nat.reduceEqDiff]; first | done | rfl | assumption) | simp [put_at, *]), (by first | rfl | (simp only [put_at, ↓reduceIte, Nat.reduceEqDiff]; first | done | rfl | assumption) | simp [put_at, *]), (by first | rfl | (simp only [put_at, ↓reduceIte, Nat.reduceEqDiff]; first | done | rfl | assumption) | simp [put_at, *]), (by first | rfl | (simp only [put_at, ↓reduceIte, Nat.reduceEqDiff]; first | done | rfl | assumption) | simp [put_at, *]), (by first | rfl | (simp only [put_at, ↓reduceIte, Nat.reduceEqDiff]; first | done | rfl | assumption) | simp [put_at, *]), (by first | rfl | (simp only [put_at, ↓reduceIte, Nat.reduceEqDiff]; first | done | rfl | assumption) | simp [put_at, *])⟩ ?_ ?_
            · rintro m fr E hm ⟨rfl, hz, f1, f34, f35, f36, f49, f50, f51⟩ N hN
              have g3 := lt_dec hm
              have g4 := rng hm
              have g5 := up1 hm (by omega)
              have p5 := fl.rdq hm
              have pA := fl.qd_is hm
              repeat' (first | simp -implicitDefEqProofs only [zG1,zG2,zG3,zG4,zG5,zG6,zG7,eq_self,resV,rval,X.val,binv,fillL,setR,↓reduceIte,Nat.reduceEqDiff,Nat.reduceAdd,Nat.reduceMul,Nat.reduceLeDiff,Nat.reduceLT,Nat.reduceSub,reduceCtorEq,zGp, f1, f34, f35, f36, f49, f50, f51, g3, g4, p5, pA])
              refine new_intro (fun x6 hx6 => ?_)
              have l6' := (AHeap.le.refl E).fresh hx6 ⟨[.int .i64 0, .int .i64 0, .int .i64 0, .int .i64 0, .int .i64 0], true, 111, 5⟩
              have k6' := (Kn.same E x6 ⟨[.int .i64 0, .int .i64 0, .int .i64 0, .int .i64 0, .int .i64 0], true, 111, 5⟩)
              have k1' := k1.trans l6'
              have n16 : ¬ x1 ∈ [x6] := fun hm => by
                simp only [List.mem_cons, List.not_mem_nil, or_false] at hm; subst hm; exact k1.ne hx6
              generalize E.set x6 _ = F0 at l6' k6' k1' ⊢
              repeat' (first | simp -implicitDefEqProofs only [zG1,zG2,zG3,zG4,zG5,zG6,zG7,eq_self,resV,rval,X.val,binv,fillL,setR,↓reduceIte,Nat.reduceEqDiff,Nat.reduceAdd,Nat.reduceMul,Nat.reduceLeDiff,Nat.reduceLT,Nat.reduceSub,reduceCtorEq,zGp, f1, f34, f35, f36, f49, f50, f51])
              refine st_own k6' [.int .i64 c.codes[k][m].op, .int .i64 c.codes[k][m].dst, .int .i64 c.codes[k][m].a, .int .i64 c.codes[k][m].b, .int .i64 c.codes[k][m].n] rfl rfl (by simp) (by simp [ocI]) (fun F hcF k6 => ?_)
              simp only [setR, List.set_cons_zero, List.set_cons_succ] at k6
              have l6 := hcF.keep l6' (New.one hx6)
              have r6 : F.rdn (some ⟨x6, 0, none⟩) 5 = some [.int .i64 c.codes[k][m].op, .int .i64 c.codes[k][m].dst, .int .i64 c.codes[k][m].a, .int .i64 c.codes[k][m].b, .int .i64 c.codes[k][m].n] := k6.rdn (l := [.int .i64 c.codes[k][m].op, .int .i64 c.codes[k][m].dst, .int .i64 c.codes[k][m].a, .int .i64 c.codes[k][m].b, .int .i64 c.codes[k][m].n]) (o := 0) fun j _ => by rw [Nat.zero_add]
              have q3 := (k1'.chg hcF n16).cell (j := 2) rfl
              cases hr : quadThere c.codes[k][m] c.boxes.length with
              | true =>
                repeat' (first | simp -implicitDefEqProofs only [zG1,zG2,zG3,zG4,zG5,zG6,zG7,eq_self,resV,rval,X.val,binv,fillL,setR,↓reduceIte,Nat.reduceEqDiff,Nat.reduceAdd,Nat.reduceMul,Nat.reduceLeDiff,Nat.reduceLT,Nat.reduceSub,reduceCtorEq,zGp, q3, r6, f1, f34, f35, f36, f49, f50, f51, g3, g4, g5, p5, pA, hr] | ((with_reducible refine rows_intro (fun _ hb => ?_)); try simp only [set_none, ne_eq] at hb) | ((with_reducible refine new_intro (fun _ hb => ?_)); try simp only [set_none, ne_eq] at hb) | (with_reducible refine draw_same ?_) | ((with_reducible refine gd_split ?_ (fun _ => ?_) (fun _ => ?_)); exact rfl) | ((with_reducible refine td_split ?_ (fun _ => ?_) (fun _ => ?_)); exact rfl) | (with_reducible refine c_split (fun _ => ?_) (fun _ => ?_)) | (with_reducible refine boxThere_ok _ _ _ c.codes[k][m] c.boxes.length ?_))
                refine hN _ _ E l6 ⟨rfl, fun i hi hik => ?_, (by first | rfl | (simp only [put_at, ↓reduceIte, Nat.reduceEqDiff]; first | done | rfl | assumption) | simp [put_at, *]), (by first | rfl | (simp only [put_at, ↓reduceIte, Nat.reduceEqDiff]; first | done | rfl | assumption) | simp [put_at, *]), (by first | rfl | (simp only [put_at, ↓reduceIte, Nat.reduceEqDiff]; first | done | rfl | assumption) | simp [put_at, *]), (by first | rfl | (simp only [put_at, ↓reduceIte, Nat.reduceEqDiff]; first | done | rfl | assumption) | simp [put_at, *]), (by first | rfl | (simp only [put_at, ↓reduceIte, Nat.reduceEqDiff]; first | done | rfl | assumption) | simp [put_at, *]), (by first | rfl | (simp only [put_at, ↓reduceIte, Nat.reduceEqDiff]; first | done | rfl | assumption) | simp [put_at, *]), (by first | rfl | (simp only [put_at, ↓reduceIte, Nat.reduceEqDiff]; first | done | rfl | assumption) | simp [put_at, *])⟩
                rcases Nat.lt_succ_iff_lt_or_eq.1 hik with hik | rfl
                · exact hz i hi hik
                · exact hr
              | false =>
                have e : codeThere c.codes[k] c.boxes.length = false := by
                  rw [codeThere, List.all_eq_false]
                  exact ⟨c.codes[k][m], List.getElem_mem hm, by rw [hr]; simp⟩
                rw [crewOk_bad hk' hk (by rw [e, Bool.and_false])] at h
                repeat' (first | simp -implicitDefEqProofs only [zG1,zG2,zG3,zG4,zG5,zG6,zG7,eq_self,resV,rval,X.val,binv,fillL,setR,↓reduceIte,Nat.reduceEqDiff,Nat.reduceAdd,Nat.reduceMul,Nat.reduceLeDiff,Nat.reduceLT,Nat.reduceSub,reduceCtorEq,zGp, q3, r6, f1, f34, f35, f36, f49, f50, f51, g3, g4, g5, p5, pA, hr] | ((with_reducible refine rows_intro (fun _ hb => ?_)); try simp only [set_none, ne_eq] at hb) | ((with_reducible refine new_intro (fun _ hb => ?_)); try simp only [set_none, ne_eq] at hb) | (with_reducible refine draw_same ?_) | ((with_reducible refine gd_split ?_ (fun _ => ?_) (fun _ => ?_)); exact rfl) | ((with_reducible refine td_split ?_ (fun _ => ?_) (fun _ => ?_)); exact rfl) | (with_reducible refine c_split (fun _ => ?_) (fun _ => ?_)) | (with_reducible refine boxThere_ok _ _ _ c.codes[k][m] c.boxes.length ?_))
                exact ⟨H, l1.trans l6, h⟩
            · rintro fr E ⟨rfl, hz, f1, f34, f35, f36, f49, f50, f51⟩ N
              have g3 : decide ((c.codes[k].length : Int) < (c.codes[k].length : Int)) = false := by simp
              have e : codeThere c.codes[k] c.boxes.length = true := by
                rw [codeThere, List.all_eq_true]
                intro q hq
                obtain ⟨i, hi, rfl⟩ := List.getElem_of_mem hq
                exact hz i hi hi
              repeat' (first | simp -implicitDefEqProofs only [zG1,zG2,zG3,zG4,zG5,zG6,zG7,eq_self,resV,rval,X.val,binv,fillL,setR,↓reduceIte,Nat.reduceEqDiff,Nat.reduceAdd,Nat.reduceMul,Nat.reduceLeDiff,Nat.reduceLT,Nat.reduceSub,reduceCtorEq,zGq, f1, f34, f35, f36, f49, f50, f51, g2, g3] | ((with_reducible refine rows_intro (fun _ hb => ?_)); try simp only [set_none, ne_eq] at hb) | ((with_reducible refine new_intro (fun _ hb => ?_)); try simp only [set_none, ne_eq] at hb) | (with_reducible refine draw_same ?_) | ((with_reducible refine gd_split ?_ (fun _ => ?_) (fun _ => ?_)); exact rfl) | ((with_reducible refine td_split ?_ (fun _ => ?_) (fun _ => ?_)); exact rfl) | (with_reducible refine c_split (fun _ => ?_) (fun _ => ?_)))
              refine hN _ _ _ (.refl _) ⟨rfl, fun i h1 h2 hik => ?_, (by first | rfl | (simp only [put_at, ↓reduceIte, Nat.reduceEqDiff]; first | done | rfl | assumption) | simp [put_at, *]), (by first | rfl | (simp only [put_at, ↓reduceIte, Nat.reduceEqDiff]; first | done | rfl | assumption) | simp [put_at, *]), (by first | rfl | (simp only [put_at, ↓reduceIte, Nat.reduceEqDiff]; first | done | rfl | assumption) | simp [put_at, *]), (by first | rfl | (simp only [put_at, ↓reduceIte, Nat.reduceEqDiff]; first | done | rfl | assumption) | simp [put_at, *])⟩
              rcases Nat.lt_succ_iff_lt_or_eq.1 hik with hik | rfl
              · exact hw i h1 h2 hik
              · rw [hv, e]; rfl
        · rintro fr D ⟨rfl, hw, f1, f34, f35, f36⟩ N
          have g0 : decide ((c.codes.length : Int) < (c.codes.length : Int)) = false := by simp
          rw [crewOk_good (by rw [crewPre, e1, e3, decide_eq_true hl]; rfl) fun i h1 h2 => hw i h1 h2 h2] at h
          repeat' (first | simp -implicitDefEqProofs only [zG1,zG2,zG3,zG4,zG5,zG6,zG7,eq_self,resV,rval,X.val,binv,fillL,setR,↓reduceIte,Nat.reduceEqDiff,Nat.reduceAdd,Nat.reduceMul,Nat.reduceLeDiff,Nat.reduceLT,Nat.reduceSub,reduceCtorEq,zGq, f1, f34, f35, f36, g0] | ((with_reducible refine rows_intro (fun _ hb => ?_)); try simp only [set_none, ne_eq] at hb) | ((with_reducible refine new_intro (fun _ hb => ?_)); try simp only [set_none, ne_eq] at hb) | (with_reducible refine draw_same ?_) | ((with_reducible refine gd_split ?_ (fun _ => ?_) (fun _ => ?_)); exact rfl) | ((with_reducible refine td_split ?_ (fun _ => ?_) (fun _ => ?_)); exact rfl) | (with_reducible refine c_split (fun _ => ?_) (fun _ => ?_)))
          exact ⟨H, l1, h⟩
end Go.Proofs.Ytfjhjfddgdokgaa
namespace Go.Proofs.Ytfjhjfddgdokgaa
set_option linter.all false
structure Fw (V : Type) where
  ok : V → Prop
  le : V → V → Prop
  join : V → V → V
  edges : Nat → V → List Nat
  tr : Nat → V → V
  ht : V → Nat
  refl : ∀ a, le a a
  trans : ∀ {a b c}, le a b → le b c → le a c
  anti : ∀ {a b}, ok a → ok b → le a b → le b a → a = b
  ok_join : ∀ {a b}, ok a → ok b → ok (join a b)
  ok_tr : ∀ {i a}, ok a → ok (tr i a)
  join_l : ∀ {a b}, ok a → ok b → le a (join a b)
  join_r : ∀ {a b}, ok a → ok b → le b (join a b)
  join_le : ∀ {a b c}, ok a → ok b → ok c → le a c → le b c → le (join a b) c
  mono_tr : ∀ {i a b}, ok a → ok b → le a b → le (tr i a) (tr i b)
  mono_ed : ∀ {i j a b}, ok a → ok b → le a b → j ∈ edges i a → j ∈ edges i b
  ht_lt : ∀ {a b}, ok a → ok b → join a b ≠ a → ht (join a b) < ht a
namespace Fw
variable {V : Type} (F : Fw V)
def Under (s c : List V) : Prop := ∀ (i : Nat) (v u : V), s[i]? = some v → c[i]? = some u → F.le v u
def Sats (s : List V) (i : Nat) (v : V) : Prop := ∀ j, j ∈ F.edges i v → ∀ u, s[j]? = some u → F.le (F.tr i v) u
def Oks (s : List V) : Prop := ∀ (i : Nat) (v : V), s[i]? = some v → F.ok v
def Closed (s0 c : List V) : Prop := c.length = s0.length ∧ F.Oks c ∧ F.Under s0 c ∧ ∀ i v, c[i]? = some v → F.Sats c i v
def Below (s0 s : List V) : Prop := s.length = s0.length ∧ F.Oks s ∧ F.Under s0 s ∧ ∀ c, F.Closed s0 c → F.Under s c
/-- v is below every solution at i. -/
def Lo (s0 : List V) (i : Nat) (v : V) : Prop := F.ok v ∧ ∀ c, F.Closed s0 c → ∀ u, c[i]? = some u → F.le v u
def pot (s : List V) : Nat := (s.map F.ht).sum
variable {F} {s0 s c w : List V}
theorem Below.lo (h : F.Below s0 s) {i : Nat} {v : V} (hv : s[i]? = some v) : F.Lo s0 i v := ⟨h.2.1 i v hv, fun c hc u hu => h.2.2.2 c hc i v u hv hu⟩
theorem set_get {i j : Nat} {u x : V} (hu : s[j]? = some u) : (s.set j x)[i]? = if i = j then some x else s[i]? := by
  have hj := (List.getElem?_eq_some_iff.1 hu).1
  rw [List.getElem?_set]
  by_cases h : j = i
  · subst h; rw [if_pos rfl, if_pos hj, if_pos rfl]
  · rw [if_neg h, if_neg (fun e => h e.symm)]
theorem Below.step (h : F.Below s0 s) {i j : Nat} {v u : V} (hv : F.Lo s0 i v) (hj : j ∈ F.edges i v) (hu : s[j]? = some u) (hi : i < s0.length) : F.Below s0 (s.set j (F.join u (F.tr i v))) := by
  have ou := h.2.1 j u hu
  have ot := F.ok_tr (i := i) hv.1
  refine ⟨by rw [List.length_set]; exact h.1, fun i' v' h' => ?_, fun i' a b ha hb => ?_, fun c hc i' a b ha hb => ?_⟩
  · rw [set_get hu] at h'
    split at h'
    · obtain rfl := Option.some.inj h'; exact F.ok_join ou ot
    · exact h.2.1 _ _ h'
  · rw [set_get hu] at hb
    split at hb
    · rename_i e; subst e
      obtain rfl := Option.some.inj hb
      exact F.trans (h.2.2.1 _ _ _ ha hu) (F.join_l ou ot)
    · exact h.2.2.1 _ _ _ ha hb
  · rw [set_get hu] at ha
    split at ha
    · rename_i e; subst e
      obtain rfl := Option.some.inj ha
      have hlt : i < c.length := by rw [hc.1]; exact hi
      have hci := List.getElem?_eq_getElem hlt
      have l1 := hv.2 c hc _ hci
      have oc := hc.2.1 _ _ hci
      exact F.join_le ou ot (hc.2.1 _ _ hb) (h.2.2.2 c hc _ _ _ hu hb) (F.trans (F.mono_tr hv.1 oc l1) (hc.2.2.2 _ _ hci _ (F.mono_ed hv.1 oc l1 hj) _ hb))
    · exact h.2.2.2 c hc _ _ _ ha hb
theorem pot_set : ∀ {s : List V} {j : Nat} {u x : V}, s[j]? = some u → F.pot (s.set j x) + F.ht u = F.pot s + F.ht x
  | [], j, _, _, h => by simp at h
  | a :: s, 0, u, x, h => by
    simp only [List.getElem?_cons_zero, Option.some.injEq] at h
    subst h
    simp only [pot, List.set_cons_zero, List.map_cons, List.sum_cons]; omega
  | a :: s, j + 1, u, x, h => by
    simp only [List.getElem?_cons_succ] at h
    have := pot_set (s := s) (j := j) (x := x) h
    simp only [pot, List.set_cons_succ, List.map_cons, List.sum_cons] at this ⊢; omega
theorem pot_lt {j : Nat} {u x : V} (h : s[j]? = some u) (hx : F.ht x < F.ht u) : F.pot (s.set j x) < F.pot s := by
  have := pot_set (F := F) (x := x) h
  omega
variable (F)
def Wk (s : List V) (w : List Nat) : Prop := ∀ i v, s[i]? = some v → i ∈ w ∨ F.Sats s i v
def Mid (s : List V) (w : List Nat) (x : Nat) (v : V) (k : Nat) : Prop :=
  (∀ i u, i ≠ x → s[i]? = some u → i ∈ w ∨ F.Sats s i u) ∧ (s[x]? = some v ∨ x ∈ w) ∧ ∀ j, j ∈ (F.edges x v).take k → ∀ u, s[j]? = some u → F.le (F.tr x v) u
variable {F}
theorem Mid.done {w : List Nat} {x : Nat} {v : V} {k : Nat} (h : F.Mid s w x v k) (hk : (F.edges x v).length ≤ k) : F.Wk s w := fun i u hu => by
  by_cases hi : i = x
  · subst hi
    rcases h.2.1 with h1 | h1
    · rw [h1] at hu
      obtain rfl := Option.some.inj hu
      exact .inr fun j hj u' hu' => h.2.2 j (by rw [List.take_of_length_le hk]; exact hj) u' hu'
    · exact .inl h1
  · exact h.1 i u hi hu
theorem take_mem {α : Type} {l : List α} {k : Nat} {x : α} (h : l[k]? = some x) {j : α} (hj : j ∈ l.take (k + 1)) : j ∈ l.take k ∨ j = x := by
  rw [List.take_add_one, h] at hj
  simpa using hj
theorem Mid.keep {w : List Nat} {x j : Nat} {v u : V} {k : Nat} (h : F.Mid s w x v k) (hj : (F.edges x v)[k]? = some j) (hu : s[j]? = some u) (hl : F.le (F.tr x v) u) : F.Mid s w x v (k + 1) :=
  ⟨h.1, h.2.1, fun j' hj' u' hu' => by
    rcases take_mem hj hj' with hm | rfl
    · exact h.2.2 j' hm u' hu'
    · rw [hu] at hu'; obtain rfl := Option.some.inj hu'; exact hl⟩
theorem Mid.push {w : List Nat} {x j : Nat} {v u y : V} {k : Nat} (h : F.Mid s w x v k) (hj : (F.edges x v)[k]? = some j) (hu : s[j]? = some u) (hl : F.le (F.tr x v) y) (hy : F.le u y) : F.Mid (s.set j y) (w ++ [j]) x v (k + 1) := by
  have up : ∀ i a, F.Sats s i a → F.Sats (s.set j y) i a := fun i a hs j' hj' u' hu' => by
    rw [set_get hu] at hu'
    split at hu'
    · rename_i e; subst e; obtain rfl := Option.some.inj hu'; exact F.trans (hs j' hj' u hu) hy
    · exact hs j' hj' u' hu'
  refine ⟨fun i a hi ha => ?_, ?_, fun j' hj' u' hu' => ?_⟩
  · rw [set_get hu] at ha
    split at ha
    · rename_i e; exact .inl (by simp [e])
    · exact (h.1 i a hi ha).imp (fun hm => by simp [hm]) (up i a)
  · by_cases e : x = j
    · exact .inr (by simp [e])
    · rw [set_get hu, if_neg e]; exact h.2.1.imp id fun hm => by simp [hm]
  · rw [set_get hu] at hu'
    split at hu'
    · obtain rfl := Option.some.inj hu'; exact hl
    · rename_i e
      rcases take_mem hj hj' with hm | rfl
      · exact h.2.2 j' hm u' hu'
      · exact absurd rfl e
variable (F)
def Rd (s0 st s : List V) (k : Nat) (b : Bool) : Prop := F.Below s0 s ∧ (b = false → s = st ∧ ∀ i v, i < k → s[i]? = some v → F.Sats s i v) ∧ (b = true → F.pot s < F.pot st)
def RdM (s0 st s : List V) (i : Nat) (v : V) (e : Nat) (b : Bool) : Prop := F.Below s0 s ∧ F.Lo s0 i v ∧ i < s0.length ∧
  (b = false → s = st ∧ st[i]? = some v ∧ (∀ i' v, i' < i → s[i']? = some v → F.Sats s i' v) ∧ ∀ j, j ∈ (F.edges i v).take e → ∀ u, s[j]? = some u → F.le (F.tr i v) u) ∧ (b = true → F.pot s < F.pot st)
variable {F} {st : List V} {b : Bool}
theorem Rd.start (h : F.Below s0 s) : F.Rd s0 s s 0 false := ⟨h, fun _ => ⟨rfl, fun i v hi => absurd hi (Nat.not_lt_zero _)⟩, fun h => by cases h⟩
theorem Rd.enter {k : Nat} {v : V} (h : F.Rd s0 st s k b) (hv : s[k]? = some v) : F.RdM s0 st s k v 0 b :=
  ⟨h.1, h.1.lo hv, by rw [← h.1.1]; exact (List.getElem?_eq_some_iff.1 hv).1, fun hb => ⟨(h.2.1 hb).1, by rw [← (h.2.1 hb).1]; exact hv, fun i u hi hu => (h.2.1 hb).2 i u hi hu, fun j hj => by simp at hj⟩, h.2.2⟩
theorem Rd.skip {k : Nat} {v : V} (h : F.Rd s0 st s k b) (hv : s[k]? = some v) (he : F.edges k v = []) : F.Rd s0 st s (k + 1) b :=
  ⟨h.1, fun hb => ⟨(h.2.1 hb).1, fun i u hi hu => by
    rcases Nat.lt_succ_iff_lt_or_eq.1 hi with hi | rfl
    · exact (h.2.1 hb).2 i u hi hu
    · rw [hv] at hu; obtain rfl := Option.some.inj hu; intro j hj; rw [he] at hj; cases hj⟩, h.2.2⟩
theorem RdM.exit {i e : Nat} {v : V} (h : F.RdM s0 st s i v e b) (he : (F.edges i v).length ≤ e) : F.Rd s0 st s (i + 1) b :=
  ⟨h.1, fun hb => ⟨(h.2.2.2.1 hb).1, fun i' u hi hu => by
    obtain ⟨e1, e2, e3, e4⟩ := h.2.2.2.1 hb
    rcases Nat.lt_succ_iff_lt_or_eq.1 hi with hi | rfl
    · exact e3 i' u hi hu
    · rw [e1, e2] at hu
      obtain rfl := Option.some.inj hu
      intro j hj u' hu'
      exact e4 j (by rw [List.take_of_length_le he]; exact hj) u' hu'⟩, h.2.2.2.2⟩
theorem RdM.keep {i e j : Nat} {v u : V} (h : F.RdM s0 st s i v e b) (hj : (F.edges i v)[e]? = some j) (hu : s[j]? = some u) (hl : F.le (F.tr i v) u) : F.RdM s0 st s i v (e + 1) b :=
  ⟨h.1, h.2.1, h.2.2.1, fun hb => by
    obtain ⟨e1, e2, e3, e4⟩ := h.2.2.2.1 hb
    refine ⟨e1, e2, e3, fun j' hj' u' hu' => ?_⟩
    rcases take_mem hj hj' with hm | rfl
    · exact e4 j' hm u' hu'
    · rw [hu] at hu'; obtain rfl := Option.some.inj hu'; exact hl, h.2.2.2.2⟩
theorem RdM.push {i e j : Nat} {v u : V} (h : F.RdM s0 st s i v e b) (hj : (F.edges i v)[e]? = some j) (hu : s[j]? = some u) (hne : F.join u (F.tr i v) ≠ u) : F.RdM s0 st (s.set j (F.join u (F.tr i v))) i v (e + 1) true := by
  have ou := h.1.2.1 j u hu
  have ot := F.ok_tr (i := i) h.2.1.1
  refine ⟨h.1.step h.2.1 (List.mem_of_getElem? hj) hu h.2.2.1, h.2.1, h.2.2.1, (fun hb => by cases hb), fun _ => ?_⟩
  have := pot_lt (F := F) hu (F.ht_lt ou ot hne)
  cases b with
  | false => rw [(h.2.2.2.1 rfl).1] at this ⊢; exact this
  | true => have := h.2.2.2.2 rfl; omega
end Fw
end Go.Proofs.Ytfjhjfddgdokgaa
namespace Go.Proofs.Ytfjhjfddgdokgaa
set_option linter.all false
open Go Go.RowKit
set_option maxRecDepth 100000
variable (w0 : World) (H : AHeap) (K : Value → AHeap → Prop)
theorem ints_oc (l : List Int) : ∀ v ∈ ints l, v.oneCell' = true := by
  intro v hv
  obtain ⟨b, _, rfl⟩ := List.mem_map.1 hv
  rfl
end Go.Proofs.Ytfjhjfddgdokgaa
namespace Go.Proofs.Ytfjhjfddgdokgaa
set_option linter.all false
open Go Go.RowKit
set_option maxRecDepth 100000
variable (w0 : World) (H : AHeap) (K : Value → AHeap → Prop)
def known (s : List (List Int)) : List Bool := s.map fun v => !decide (v = [])
theorem cloneI_ok (A : Option Addr) (c : Nat) (xs : List Int) (hx : Fl H A (ints xs)) (hA : A.isSome = true) (hn : xs.length ≤ 1048576) (h : ∀ v C bs, AHeap.le H C → New H bs → Rw C 3 1 v xs.length (ints xs) bs → K v C) :
    ACalls Try.prog w0 128 [.slice A xs.length c] H K := by
  cases A with
  | none => cases hA
  | some a =>
    refine acalls_of_sx mix Try.func128 of128 (by simp [ir128]) ?_; rw [ir128]; (try delta qT qI qC qO qM qG)
    repeat' (first | simp -implicitDefEqProofs only [zG1,zG2,zG3,zG4,zG5,zG6,zG7,eq_self,resV,rval,X.val,binv,fillL,setR,↓reduceIte,Nat.reduceEqDiff,Nat.reduceAdd,Nat.reduceMul,Nat.reduceLeDiff,Nat.reduceLT,Nat.reduceSub,reduceCtorEq,zGp] | ((with_reducible refine rows_intro (fun _ hb => ?_)); try simp only [set_none, ne_eq] at hb) | ((with_reducible refine new_intro (fun _ hb => ?_)); try simp only [set_none, ne_eq] at hb) | (with_reducible refine draw_same ?_) | ((with_reducible refine gd_split ?_ (fun _ => ?_) (fun _ => ?_)); exact rfl) | ((with_reducible refine td_split ?_ (fun _ => ?_) (fun _ => ?_)); exact rfl) | (with_reducible refine c_split (fun _ => ?_) (fun _ => ?_)))
    have l1 := (AHeap.le.refl H).fresh hb ⟨[], true, 3, 0⟩
    refine app_rw (n := 0) (xs := []) (news := ints xs) (Rw.mk (Kn.same _ _ _) rfl (Nat.le_refl _) (Nat.zero_le _)) (hx.le l1) (by rw [ints_len]; simp) (ints_oc _) (by simp only [maxLen]; omega) (by omega) (fun v3 C3 bs3 hc3 hn3 w3 => ?_)
    rw [Nat.zero_add, List.nil_append] at w3
    repeat' (first | simp -implicitDefEqProofs only [zG1,zG2,zG3,zG4,zG5,zG6,zG7,eq_self,resV,rval,X.val,binv,fillL,setR,↓reduceIte,Nat.reduceEqDiff,Nat.reduceAdd,Nat.reduceMul,Nat.reduceLeDiff,Nat.reduceLT,Nat.reduceSub,reduceCtorEq,zGp] | ((with_reducible refine rows_intro (fun _ hb => ?_)); try simp only [set_none, ne_eq] at hb) | ((with_reducible refine new_intro (fun _ hb => ?_)); try simp only [set_none, ne_eq] at hb) | (with_reducible refine draw_same ?_) | ((with_reducible refine gd_split ?_ (fun _ => ?_) (fun _ => ?_)); exact rfl) | ((with_reducible refine td_split ?_ (fun _ => ?_) (fun _ => ?_)); exact rfl) | (with_reducible refine c_split (fun _ => ?_) (fun _ => ?_)))
    refine ret_same (h _ _ bs3 (hc3.keep l1 (New.one hb)) (fun y hy => ?_) w3)
    rcases hn3 y hy with hm | hm
    · simp at hm; rw [hm]; exact hb
    · exact l1.none hm
end Go.Proofs.Ytfjhjfddgdokgaa
namespace Go.Proofs.Ytfjhjfddgdokgaa
set_option linter.all false
open Go Go.RowKit
set_option maxRecDepth 100000
variable (w0 : World) (H : AHeap) (K : Value → AHeap → Prop)
theorem cloneI_any (A : Option Addr) (c : Nat) (xs : List Int) (hx : Fl H A (ints xs)) (hn : xs.length ≤ 1048576) (h : ∀ v C bs, AHeap.le H C → New H bs → Rw C 3 1 v xs.length (ints xs) bs → K v C) :
    ACalls Try.prog w0 128 [.slice A xs.length c] H K := by
  cases A with
  | some a => exact cloneI_ok w0 H K _ c xs hx rfl hn h
  | none =>
    have e : xs = [] := by
      cases xs with
      | nil => rfl
      | cons z zs => have := hx.ints_is (i := 0) (by simp); cases this
    subst e
    refine acalls_of_sx mix Try.func128 of128 (by simp [ir128]) ?_; rw [ir128]; (try delta qT qI qC qO qM qG)
    repeat' (first | simp -implicitDefEqProofs only [zG1,zG2,zG3,zG4,zG5,zG6,zG7,eq_self,resV,rval,X.val,binv,fillL,setR,↓reduceIte,Nat.reduceEqDiff,Nat.reduceAdd,Nat.reduceMul,Nat.reduceLeDiff,Nat.reduceLT,Nat.reduceSub,reduceCtorEq,zGp] | ((with_reducible refine rows_intro (fun _ hb => ?_)); try simp only [set_none, ne_eq] at hb) | ((with_reducible refine new_intro (fun _ hb => ?_)); try simp only [set_none, ne_eq] at hb) | (with_reducible refine draw_same ?_) | ((with_reducible refine gd_split ?_ (fun _ => ?_) (fun _ => ?_)); exact rfl) | ((with_reducible refine td_split ?_ (fun _ => ?_) (fun _ => ?_)); exact rfl) | (with_reducible refine c_split (fun _ => ?_) (fun _ => ?_)))
    all_goals first | exact ret_same (h _ _ [] (.refl _) (New.nil _) (.inl ⟨rfl, rfl, rfl, rfl⟩)) | (exact absurd (show (none : Option Addr).isNone = false by assumption) (by simp))
abbrev boxI (ts : List (List Int × Int)) : List (List Value) := (ts.map (·.1)).map ints
theorem boxI_take {ts : List (List Int × Int)} {k : Nat} (h : k < ts.length) : boxI (ts.take (k + 1)) = boxI (ts.take k) ++ [ints ts[k].1] := by
  have e : ts.take (k + 1) = ts.take k ++ [ts[k]] := by rw [List.take_add_one, List.getElem?_eq_getElem h]; rfl
  simp only [boxI, e, List.map_append, List.map_cons, List.map_nil]
theorem outcomeOf_ok (A : Option Addr) (c : Nat) (xs : List Int) (B : Option Addr) (d : Nat) (ts : List (List Int × Int)) (r : Bool) (hx : Fl H A (ints xs)) (hn : xs.length ≤ 1048576) (hs : FP H B 1 0 ts) (hm : ts.length ≤ 1048576) (hL : ∀ x ∈ ts, x.1.length ≤ 1048576)
    (h : ∀ v0 v1 C b0 b1, AHeap.le H C → New H b0 → New H b1 → Apart b1 b0 → (∀ y, y ∈ b0 → C y ≠ none) → (∀ y, y ∈ b1 → C y ≠ none) → Rw C 3 1 v0 xs.length (ints xs) b0 → Rs C 35 3 1 v1 (boxI ts) b1 → K (.agg #[v0, v1, .slice none 0 0, .bool r]) C) :
    ACalls Try.prog w0 109 [.slice A xs.length c, .slice B ts.length d, .bool r] H K := by
  refine acalls_of_sx mix Try.func109 of109 (by simp [ir109]) ?_; rw [ir109]; (try delta qT qI qC qO qM qG)
  repeat' (first | simp -implicitDefEqProofs only [zG1,zG2,zG3,zG4,zG5,zG6,zG7,eq_self,resV,rval,X.val,binv,fillL,setR,↓reduceIte,Nat.reduceEqDiff,Nat.reduceAdd,Nat.reduceMul,Nat.reduceLeDiff,Nat.reduceLT,Nat.reduceSub,reduceCtorEq,zGq])
  refine new_intro (fun x6 h6 => ?_)
  have l6 := (AHeap.le.refl H).fresh h6 ⟨[.slice none 0 0, .slice none 0 0, .slice none 0 0, .bool false], true, 78, 4⟩
  have k6 := Kn.same H x6 ⟨[.slice none 0 0, .slice none 0 0, .slice none 0 0, .bool false], true, 78, 4⟩
  generalize H.set x6 _ = C0 at l6 k6 ⊢
  repeat' (first | simp -implicitDefEqProofs only [zG1,zG2,zG3,zG4,zG5,zG6,zG7,eq_self,resV,rval,X.val,binv,fillL,setR,↓reduceIte,Nat.reduceEqDiff,Nat.reduceAdd,Nat.reduceMul,Nat.reduceLeDiff,Nat.reduceLT,Nat.reduceSub,reduceCtorEq,zGq])
  refine cloneI_any w0 C0 _ A c xs (hx.le l6) hn (fun v0 C1 b0 l1 n0 w1 => ?_)
  obtain ⟨V0, e0, rfl, -⟩ := w1.fl
  have kb0 := rw_kn w1
  repeat' (first | simp -implicitDefEqProofs only [zG1,zG2,zG3,zG4,zG5,zG6,zG7,eq_self,resV,rval,X.val,binv,fillL,setR,↓reduceIte,Nat.reduceEqDiff,Nat.reduceAdd,Nat.reduceMul,Nat.reduceLeDiff,Nat.reduceLT,Nat.reduceSub,reduceCtorEq,zGq])
  refine new_intro (fun x7 h7 => ?_)
  have l7' := (AHeap.le.refl C1).fresh h7 ⟨[.slice none 0 0, .slice none 0 0, .slice none 0 0, .bool false], true, 78, 4⟩
  have k7' := Kn.same C1 x7 ⟨[.slice none 0 0, .slice none 0 0, .slice none 0 0, .bool false], true, 78, 4⟩
  have n67 : ¬ x6 = x7 := by rintro rfl; exact (k6.trans l1).ne h7
  have n7b : ¬ x7 ∈ b0 := fun hm => kb0 _ hm h7
  have n6b : ¬ x6 ∈ b0 := fun hm => k6.ne (n0 _ hm)
  have k6a := (k6.trans l1).trans l7'
  have w1a := w1.trans l7'
  have L1 := l6.trans (l1.trans l7')
  have kb0a : ∀ y, y ∈ b0 → (C1.set x7 ⟨[.slice none 0 0, .slice none 0 0, .slice none 0 0, .bool false], true, 78, 4⟩) y ≠ none := fun y hy => le_kept l7' (kb0 y hy)
  generalize C1.set x7 _ = C2 at l7' k7' k6a w1a L1 kb0a ⊢
  repeat' (first | simp -implicitDefEqProofs only [zG1,zG2,zG3,zG4,zG5,zG6,zG7,eq_self,resV,rval,X.val,binv,fillL,setR,↓reduceIte,Nat.reduceEqDiff,Nat.reduceAdd,Nat.reduceMul,Nat.reduceLeDiff,Nat.reduceLT,Nat.reduceSub,reduceCtorEq,zGq])
  refine st_own k7' [.slice V0 xs.length e0, .slice none 0 0, .slice none 0 0, .bool r] rfl rfl (by simp) (by simp [ocS, Value.oneCell']) (fun C3 h3 k7 => ?_)
  simp only [setR, List.set_cons_zero, List.set_cons_succ] at k7
  have L3 : AHeap.le H C3 := h3.keep L1 (New.one (l6.none (l1.none h7)))
  have k63 := k6a.chg h3 (by simpa using n67)
  have w3 := w1a.chg h3 fun y hy hm => n7b (by simp only [List.mem_cons, List.not_mem_nil, or_false] at hm; exact hm ▸ hy)
  have kb3 : ∀ y, y ∈ b0 → C3 y ≠ none := fun y hy => h3.kept (kb0a y hy) fun hm => n7b (by simp only [List.mem_cons, List.not_mem_nil, or_false] at hm; exact hm ▸ hy)
  repeat' (first | simp -implicitDefEqProofs only [zG1,zG2,zG3,zG4,zG5,zG6,zG7,eq_self,resV,rval,X.val,binv,fillL,setR,↓reduceIte,Nat.reduceEqDiff,Nat.reduceAdd,Nat.reduceMul,Nat.reduceLeDiff,Nat.reduceLT,Nat.reduceSub,reduceCtorEq,zGq])
  refine for_rule ts.length (fun k fr C => ∃ v1 b1, AHeap.le H C ∧ New H b1 ∧ Rs C 35 3 1 v1 (boxI (ts.take k)) b1 ∧ Apart b1 b0 ∧ (¬ x7 ∈ b1 ∧ ¬ x6 ∈ b1) ∧ Rw C 3 1 (.slice V0 xs.length e0) xs.length (ints xs) b0 ∧ Kn C x6 ⟨[.slice none 0 0, .slice none 0 0, .slice none 0 0, .bool false], true, 78, 4⟩ ∧
      Kn C x7 ⟨[.slice V0 xs.length e0, v1, .slice none 0 0, .bool r], true, 78, 4⟩ ∧ fr 6 = .pointer (some ⟨x6, 0, none⟩) ∧ fr 7 = .pointer (some ⟨x7, 0, none⟩) ∧ fr 14 = .slice B ts.length d ∧ fr 15 = .int .i64 ts.length ∧ fr 16 = .int .i64 k)
    ⟨_, [], L3, New.nil _, Rs.nil_ _ _ _ _, fun _ hy => (by cases hy), ⟨by simp, by simp⟩, w3, k63, k7, (by first | rfl | (simp only [put_at, ↓reduceIte, Nat.reduceEqDiff]; first | done | rfl | assumption) | simp [put_at, *]), (by first | rfl | (simp only [put_at, ↓reduceIte, Nat.reduceEqDiff]; first | done | rfl | assumption) | simp [put_at, *]), (by first | rfl | (simp only [put_at, ↓reduceIte, Nat.reduceEqDiff]; first | done | rfl | assumption) | simp [put_at, *]), (by first | rfl | (simp only [put_at, ↓reduceIte, Nat.reduceEqDiff]; first | done | rfl | assumption) | simp [put_at, *]), (by first | rfl | (simp only [put_at, ↓reduceIte, Nat.reduceEqDiff]; first | done | rfl | assumption) | simp [put_at, *])⟩ ?_ ?_
  · rintro k fr C hk ⟨v1, b1', hle, hn1', hR', ha', ⟨nb7', nb6'⟩, hw, k6, k7, f6, f7, f14, f15, f16⟩ N hN
    obtain ⟨b1, hss, hne, hR⟩ := hR'.tight
    obtain ⟨V1, e1, rfl⟩ := hR.slice
    have g0 := lt_dec hk
    have g1 := rng hk
    have g2 := up1 hk (by omega)
    obtain ⟨gB, A', c', q1, q2, fl⟩ := (hs.le hle) k hk
    rw [Nat.add_zero] at q2
    repeat' (first | simp -implicitDefEqProofs only [zG1,zG2,zG3,zG4,zG5,zG6,zG7,eq_self,resV,rval,X.val,binv,fillL,setR,↓reduceIte,Nat.reduceEqDiff,Nat.reduceAdd,Nat.reduceMul,Nat.reduceLeDiff,Nat.reduceLT,Nat.reduceSub,reduceCtorEq,zGq, f6, f7, f14, f15, f16, g0, g1, gB, q1, q2])
    refine new_intro (fun x9 h9 => ?_)
    have l9' := (AHeap.le.refl C).fresh h9 ⟨[.int .i64 0, .slice none 0 0], true, 179, 2⟩
    have k9' := Kn.same C x9 ⟨[.int .i64 0, .slice none 0 0], true, 179, 2⟩
    have n79 : ¬ x7 = x9 := by rintro rfl; exact k7.ne h9
    have n69 : ¬ x6 = x9 := by rintro rfl; exact k6.ne h9
    have k7a := k7.trans l9'
    generalize C.set x9 _ = C4 at l9' k9' k7a ⊢
    repeat' (first | simp -implicitDefEqProofs only [zG1,zG2,zG3,zG4,zG5,zG6,zG7,eq_self,resV,rval,X.val,binv,fillL,setR,↓reduceIte,Nat.reduceEqDiff,Nat.reduceAdd,Nat.reduceMul,Nat.reduceLeDiff,Nat.reduceLT,Nat.reduceSub,reduceCtorEq,zGq])
    refine st_own k9' [.int .i64 ts[k].2, .slice A' ts[k].1.length c'] rfl rfl (by simp) (by simp [ocS, ocI]) (fun C5 h5 k9 => ?_)
    simp only [setR, List.set_cons_zero, List.set_cons_succ] at k9
    have l5 : AHeap.le C C5 := h5.keep l9' (New.one h9)
    replace k7 := k7.trans l5
    replace k6 := k6.trans l5
    have z7 : C5 x7 ≠ none := k7.ne
    have z6 : C5 x6 ≠ none := k6.ne
    have q7 := k7.cell (j := 1) rfl
    have q9 := k9.cell (j := 1) rfl
    have n9x : ¬ x9 ∈ b1 := fun hm => hne _ hm h9
    repeat' (first | simp -implicitDefEqProofs only [zG1,zG2,zG3,zG4,zG5,zG6,zG7,eq_self,resV,rval,X.val,binv,fillL,setR,↓reduceIte,Nat.reduceEqDiff,Nat.reduceAdd,Nat.reduceMul,Nat.reduceLeDiff,Nat.reduceLT,Nat.reduceSub,reduceCtorEq,zGq, f6, f7, f14, f15, f16, g1, q7, q9] | ((with_reducible refine rows_intro (fun _ hb => ?_)); try simp only [set_none, ne_eq] at hb) | ((with_reducible refine new_intro (fun _ hb => ?_)); try simp only [set_none, ne_eq] at hb) | (with_reducible refine draw_same ?_) | ((with_reducible refine gd_split ?_ (fun _ => ?_) (fun _ => ?_)); exact rfl) | ((with_reducible refine td_split ?_ (fun _ => ?_) (fun _ => ?_)); exact rfl) | (with_reducible refine c_split (fun _ => ?_) (fun _ => ?_)))
    refine cloneI_any w0 C5 _ A' c' ts[k].1 (fl.le l5) (hL _ (List.getElem_mem hk)) (fun v6 C6 b6 l6' n6 w6 => ?_)
    have kb6 := rw_kn w6
    obtain ⟨V6, e6, rfl, -⟩ := w6.fl
    refine ⟨l6', ?_⟩
    repeat' (first | simp -implicitDefEqProofs only [zG1,zG2,zG3,zG4,zG5,zG6,zG7,eq_self,resV,rval,X.val,binv,fillL,setR,↓reduceIte,Nat.reduceEqDiff,Nat.reduceAdd,Nat.reduceMul,Nat.reduceLeDiff,Nat.reduceLT,Nat.reduceSub,reduceCtorEq,zGq, f6, f7, f14, f15, f16, q7, q9])
    refine rows_intro (fun x10 h10 => ?_)
    have l10 := (AHeap.le.refl C6).fresh h10 ⟨[.slice V6 ts[k].1.length e6], true, 35, 1⟩
    have fl10 : Fl (C6.set x10 ⟨[.slice V6 ts[k].1.length e6], true, 35, 1⟩) (some ⟨x10, 0, none⟩) [.slice V6 ts[k].1.length e6] := Fl.blk _ _ _ _ fun _ _ h => h
    generalize C6.set x10 _ = C7 at l10 fl10 ⊢
    have hR7 := hR.trans (l5.trans (l6'.trans l10))
    have w67 := w6.trans l10
    have L7 := hle.trans (l5.trans (l6'.trans l10))
    have d6 : Apart b6 b1 := fun y hy hm => le_kept l5 (hne y hm) (n6 y hy)
    have d60 : Apart b6 b0 := fun y hy hm => le_kept l5 (rw_kn hw y hm) (n6 y hy)
    replace k7 := k7.trans (l6'.trans l10)
    replace k6 := k6.trans (l6'.trans l10)
    have hw7 := hw.trans (l5.trans (l6'.trans l10))
    have m7 : ¬ x7 ∈ b6 := fun hm => z7 (n6 _ hm)
    have m6 : ¬ x6 ∈ b6 := fun hm => z6 (n6 _ hm)
    have n7b1 : ¬ x7 ∈ b1 := fun hm => nb7' (hss _ hm)
    have n6b1 : ¬ x6 ∈ b1 := fun hm => nb6' (hss _ hm)
    have lz := l6'.trans l10
    repeat' (first | simp -implicitDefEqProofs only [zG1,zG2,zG3,zG4,zG5,zG6,zG7,eq_self,resV,rval,X.val,binv,fillL,setR,↓reduceIte,Nat.reduceEqDiff,Nat.reduceAdd,Nat.reduceMul,Nat.reduceLeDiff,Nat.reduceLT,Nat.reduceSub,reduceCtorEq,zGq, lz, true_and])
    refine hR7.app w67 d6 rfl fl10 (by simp [boxI, maxLen]; omega) (by simp [boxI]; omega) (fun v8 C8 b8 h8 n8 R8 => ?_)
    replace k7 := k7.chg h8 n7b1
    replace k6 := k6.chg h8 n6b1
    have hw8 := hw7.chg h8 fun y hy hm => ha' y (hss y hm) hy
    have L8 := h8.keep L7 fun y hy => hn1' y (hss y hy)
    have b8x : ∀ {x : Nat}, ¬ x ∈ b1 → ¬ x ∈ b6 → C7 x ≠ none → ¬ x ∈ b8 := fun h1 h2 h3 hm => by
      rcases n8 _ hm with hm | hm | hm
      · exact h1 hm
      · exact h2 hm
      · exact h3 hm
    have p7 := b8x n7b1 m7 (le_kept (l6'.trans l10) z7)
    have p6 := b8x n6b1 m6 (le_kept (l6'.trans l10) z6)
    have a8 : Apart b8 b0 := fun y hy hm => b8x (fun h1 => ha' y (hss y h1) hm) (fun h2 => d60 y h2 hm) (rw_kn hw7 y hm) hy
    have new8 : New H b8 := fun y hy => by
      rcases n8 y hy with hm | hm | hm
      · exact hn1' y (hss y hm)
      · exact (hle.trans l5).none (n6 y hm)
      · exact L7.none hm
    obtain ⟨V8, e8, rfl⟩ := R8.slice
    repeat' (first | simp -implicitDefEqProofs only [zG1,zG2,zG3,zG4,zG5,zG6,zG7,eq_self,resV,rval,X.val,binv,fillL,setR,↓reduceIte,Nat.reduceEqDiff,Nat.reduceAdd,Nat.reduceMul,Nat.reduceLeDiff,Nat.reduceLT,Nat.reduceSub,reduceCtorEq,zGq, f6, f7, f14, f15, f16, true_and])
    refine st_own k7 [_] rfl rfl (by simp) (by simp [ocS]) (fun C9 h9' k9' => ?_)
    simp only [setR, List.set_cons_zero, List.set_cons_succ] at k9'
    rw [← boxI_take hk] at R8 k9'
    have na : ∀ {bs : List Nat}, ¬ x7 ∈ bs → Apart bs [x7] := fun h y hy hm => by
      simp only [List.mem_cons, List.not_mem_nil, or_false] at hm; exact h (hm ▸ hy)
    repeat' (first | simp -implicitDefEqProofs only [zG1,zG2,zG3,zG4,zG5,zG6,zG7,eq_self,resV,rval,X.val,binv,fillL,setR,↓reduceIte,Nat.reduceEqDiff,Nat.reduceAdd,Nat.reduceMul,Nat.reduceLeDiff,Nat.reduceLT,Nat.reduceSub,reduceCtorEq,zGq, f6, f7, f14, f15, f16, g2])
    refine hN _ _ _ (.refl _) ⟨_, b8, h9'.keep L8 (New.one (l6.none (l1.none h7))), new8, R8.chg h9' (na p7), a8, ⟨p7, p6⟩, hw8.chg h9' (na n7b), k6.chg h9' (by simpa using n67), k9', (by first | rfl | (simp only [put_at, ↓reduceIte, Nat.reduceEqDiff]; first | done | rfl | assumption) | simp [put_at, *]), (by first | rfl | (simp only [put_at, ↓reduceIte, Nat.reduceEqDiff]; first | done | rfl | assumption) | simp [put_at, *]), (by first | rfl | (simp only [put_at, ↓reduceIte, Nat.reduceEqDiff]; first | done | rfl | assumption) | simp [put_at, *]), (by first | rfl | (simp only [put_at, ↓reduceIte, Nat.reduceEqDiff]; first | done | rfl | assumption) | simp [put_at, *]), (by first | rfl | (simp only [put_at, ↓reduceIte, Nat.reduceEqDiff]; first | done | rfl | assumption) | simp [put_at, *])⟩
  · rintro fr C ⟨v1, b1', hle, hn1', hR', ha', ⟨nb7', nb6'⟩, hw, k6, k7, f6, f7, f14, f15, f16⟩ N
    have g0 : decide ((ts.length : Int) < (ts.length : Int)) = false := by simp
    rw [List.take_length] at hR'
    obtain ⟨b1, hss, hne, hR⟩ := hR'.tight
    obtain ⟨V1, e1, rfl⟩ := hR.slice
    have rd4 : ∀ {D : AHeap} {x : Nat} {t : TypeId} {v0 v1 v2 v3 : Value}, Kn D x ⟨[v0, v1, v2, v3], true, t, 4⟩ → D.rdn (some ⟨x, 0, none⟩) 4 = some [v0, v1, v2, v3] := fun k => k.rdn (l := [_, _, _, _]) (o := 0) fun j _ => by rw [Nat.zero_add]
    have r7 := rd4 k7
    repeat' (first | simp -implicitDefEqProofs only [zG1,zG2,zG3,zG4,zG5,zG6,zG7,eq_self,resV,rval,X.val,binv,fillL,setR,↓reduceIte,Nat.reduceEqDiff,Nat.reduceAdd,Nat.reduceMul,Nat.reduceLeDiff,Nat.reduceLT,Nat.reduceSub,reduceCtorEq,zGp, f6, f7, f14, f15, f16, g0, r7])
    refine st_own k6 [.slice V0 xs.length e0, .slice V1 (boxI ts).length e1, .slice none 0 0, .bool r] rfl rfl (by simp) (by simp [ocS, Value.oneCell']) (fun C9 h9 k9 => ?_)
    simp only [setR, List.set_cons_zero, List.set_cons_succ] at k9
    have r9 := rd4 k9
    have na : ∀ {bs : List Nat}, ¬ x6 ∈ bs → Apart bs [x6] := fun h y hy hm => by
      simp only [List.mem_cons, List.not_mem_nil, or_false] at hm; exact h (hm ▸ hy)
    have nb6 : ¬ x6 ∈ b1 := fun hm => nb6' (hss _ hm)
    repeat' (first | simp -implicitDefEqProofs only [zG1,zG2,zG3,zG4,zG5,zG6,zG7,eq_self,resV,rval,X.val,binv,fillL,setR,↓reduceIte,Nat.reduceEqDiff,Nat.reduceAdd,Nat.reduceMul,Nat.reduceLeDiff,Nat.reduceLT,Nat.reduceSub,reduceCtorEq,zGp, f6, r9])
    exact ret_same (h _ _ C9 b0 b1 (h9.keep hle (New.one h6)) (n0.le l6) (fun y hy => hn1' y (hss y hy)) (fun y hy => ha' y (hss y hy)) (fun y hy => h9.kept (rw_kn hw y hy) (na n6b y hy)) (fun y hy => h9.kept (hne y hy) (na nb6 y hy)) (hw.chg h9 (na n6b)) (hR.chg h9 (na nb6)))
end Go.Proofs.Ytfjhjfddgdokgaa
namespace Go.Proofs.Ytfjhjfddgdokgaa
set_option linter.all false
open Go Go.RowKit
set_option maxRecDepth 100000
variable (w0 : World)
structure Oc where
  out : List Int
  items : List (List Int)
  ended : List Bool
  rest : Bool
def endB (t : List Int × Int) (qs : List Qd) : Bool := match qs[t.2.toNat]? with
  | some q => q.op == 10
  | none => false
def endL (c : Cr) : List Bool := (c.threads.zip c.codes).map fun x => endB x.1 x.2
def crewOutcome (c : Cr) : Oc := if crewOk c then ⟨c.log, c.boxes.map (·.1), endL c, c.last == (c.threads.length : Int)⟩ else ⟨[], [], [], false⟩
/-- An outcome's rows, all of the call's own, no two in the same block. -/
structure OwO (C : AHeap) (o : Oc) (v0 v1 v2 : Value) (b0 b1 b2 : List Nat) : Prop where
  r0 : Rw C 3 1 v0 o.out.length (ints o.out) b0
  r1 : Rs C 35 3 1 v1 (o.items.map ints) b1
  r2 : Rw C 4 1 v2 o.ended.length (bools o.ended) b2
  d01 : Apart b1 b0
  d02 : Apart b2 b0
  d12 : Apart b2 b1
  kn : ∀ y, y ∈ b0 ++ (b1 ++ b2) → C y ≠ none
theorem OwO.trans {C C' : AHeap} {o : Oc} {v0 v1 v2 : Value} {b0 b1 b2 : List Nat} (h : OwO C o v0 v1 v2 b0 b1 b2) (l : AHeap.le C C') : OwO C' o v0 v1 v2 b0 b1 b2 :=
  ⟨h.r0.trans l, h.r1.trans l, h.r2.trans l, h.d01, h.d02, h.d12, fun y hy => le_kept l (h.kn y hy)⟩
theorem OwO.chg {C C' : AHeap} {o : Oc} {v0 v1 v2 : Value} {b0 b1 b2 bs : List Nat} (h : OwO C o v0 v1 v2 b0 b1 b2) (hc : Chg C C' bs) (hd : Apart (b0 ++ (b1 ++ b2)) bs) : OwO C' o v0 v1 v2 b0 b1 b2 :=
  ⟨h.r0.chg hc fun y hy => hd y (by simp [hy]), h.r1.chg hc fun y hy => hd y (by simp [hy]), h.r2.chg hc fun y hy => hd y (by simp [hy]), h.d01, h.d02, h.d12, fun y hy => hc.kept (h.kn y hy) (hd y hy)⟩
theorem OwO.nil (C : AHeap) : OwO C ⟨[], [], [], false⟩ (.slice none 0 0) (.slice none 0 0) (.slice none 0 0) [] [] [] :=
  ⟨.inl ⟨rfl, rfl, rfl, rfl⟩, Rs.nil_ _ _ _ _, .inl ⟨rfl, rfl, rfl, rfl⟩, fun _ h => (by cases h), fun _ h => (by cases h), fun _ h => (by cases h), fun _ h => (by cases h)⟩
theorem crewOk_at {c : Cr} (h : crewOk c = true) {k : Nat} (h1 : k < c.threads.length) (h2 : k < c.codes.length) : 0 ≤ c.threads[k].2 ∧ c.threads[k].2 < c.codes[k].length := by
  cases hv : threadValid c.threads[k].1 c.threads[k].2 c.codes[k] with
  | false => rw [crewOk_bad h1 h2 (by rw [hv]; rfl)] at h; cases h
  | true =>
    simp only [threadValid, Bool.and_eq_true, decide_eq_true_eq] at hv
    exact ⟨hv.2.1.2, hv.2.2⟩
theorem crewOk_len {c : Cr} (h : crewOk c = true) : c.threads.length = c.codes.length ∧ c.codes.length ≤ 3 ∧ c.boxes.length ≤ 3 := by
  rw [crewOk] at h
  simp only [crewPre, turnsOk, boxesOk, Bool.and_eq_true, decide_eq_true_eq] at h
  omega
theorem endL_take {c : Cr} {k : Nat} (h1 : k < c.threads.length) (h2 : k < c.codes.length) : (endL c).take (k + 1) = (endL c).take k ++ [endB c.threads[k] c.codes[k]] := by
  have hl : (endL c).length = min c.threads.length c.codes.length := by simp [endL]
  rw [List.take_add_one, List.getElem?_eq_getElem (by omega)]
  simp [endL]
theorem endL_len {c : Cr} (h : c.threads.length = c.codes.length) : (endL c).length = c.threads.length := by simp [endL, h]
theorem endB_at {t : List Int × Int} {qs : List Qd} (h0 : 0 ≤ t.2) (h1 : t.2 < qs.length) : ∃ (n : Nat) (hn : n < qs.length), t.2 = n ∧ endB t qs = (qs[n].op == 10) := by
  refine ⟨t.2.toNat, by omega, by omega, ?_⟩
  rw [endB, List.getElem?_eq_getElem (by omega)]
abbrev ocz : List Value := [.slice none 0 0, .slice none 0 0, .slice none 0 0, .bool false]
theorem rd4 {D : AHeap} {x : Nat} {t : TypeId} {v0 v1 v2 v3 : Value} (k : Kn D x ⟨[v0, v1, v2, v3], true, t, 4⟩) : D.rdn (some ⟨x, 0, none⟩) 4 = some [v0, v1, v2, v3] := k.rdn (l := [_, _, _, _]) (o := 0) fun j _ => by rw [Nat.zero_add]
theorem rd6 {D : AHeap} {x : Nat} {t : TypeId} {v0 v1 v2 v3 v4 v5 : Value} (k : Kn D x ⟨[v0, v1, v2, v3, v4, v5], true, t, 6⟩) : D.rdn (some ⟨x, 0, none⟩) 6 = some [v0, v1, v2, v3, v4, v5] := k.rdn (l := [_, _, _, _, _, _]) (o := 0) fun j _ => by rw [Nat.zero_add]
theorem na1 {bs : List Nat} {x : Nat} (h : ¬ x ∈ bs) : Apart bs [x] := fun y hy hm => by
  simp only [List.mem_cons, List.not_mem_nil, or_false] at hm; exact h (hm ▸ hy)
section
variable (H : AHeap) (K : Value → AHeap → Prop) (c : Cr) (A0 : Option Addr) (c0 : Nat) (A1 : Option Addr) (c1 : Nat) (A2 : Option Addr) (c2 : Nat) (A5 : Option Addr) (c5 : Nat)
theorem crewOutcome_ok (hc : CrR H c A0 A1 A2 A5) (hb : CrB 1048576 c) (h : ∀ v0 v1 v2 b0 b1 b2 C, AHeap.le H C → OwO C (crewOutcome c) v0 v1 v2 b0 b1 b2 → New H b0 → New H b1 → New H b2 → K (.agg #[v0, v1, v2, .bool (crewOutcome c).rest]) C) :
    ACalls Try.prog w0 47 [crv c A0 c0 A1 c1 A2 c2 A5 c5] H K := by
  refine acalls_of_sx mix Try.func47 of47 (by simp [ir47]) ?_; rw [ir47]; (try delta qT qI qC qO qM qG)
  repeat' (first | simp -implicitDefEqProofs only [zG1,zG2,zG3,zG4,zG5,zG6,zG7,eq_self,resV,rval,X.val,binv,fillL,setR,↓reduceIte,Nat.reduceEqDiff,Nat.reduceAdd,Nat.reduceMul,Nat.reduceLeDiff,Nat.reduceLT,Nat.reduceSub,reduceCtorEq,zGq])
  refine new_intro (fun x1 h1 => ?_)
  repeat' (first | simp -implicitDefEqProofs only [zG1,zG2,zG3,zG4,zG5,zG6,zG7,eq_self,resV,rval,X.val,binv,fillL,setR,↓reduceIte,Nat.reduceEqDiff,Nat.reduceAdd,Nat.reduceMul,Nat.reduceLeDiff,Nat.reduceLT,Nat.reduceSub,reduceCtorEq,zGq])
  refine new_intro (fun x2 h2 => ?_)
  simp only [set_none, ne_eq] at h2
  have l1 := ((AHeap.le.refl H).fresh h1 ⟨crc c A0 c0 A1 c1 A2 c2 A5 c5, true, 62, 6⟩).fresh (set_none.2 h2) ⟨ocz, true, 78, 4⟩
  have k1 : Kn ((H.set x1 ⟨crc c A0 c0 A1 c1 A2 c2 A5 c5, true, 62, 6⟩).set x2 ⟨ocz, true, 78, 4⟩) x1 ⟨crc c A0 c0 A1 c1 A2 c2 A5 c5, true, 62, 6⟩ := (Kn.same _ _ _).set (fun e => h2.1 e.symm) _
  have k2 := Kn.same (H.set x1 ⟨crc c A0 c0 A1 c1 A2 c2 A5 c5, true, 62, 6⟩) x2 ⟨ocz, true, 78, 4⟩
  generalize (H.set x1 _).set x2 _ = C1 at l1 k1 k2 ⊢
  have q := kn6 k1
  have r1 := rd6 k1
  have hc1 := hc.le l1
  cases hv : crewOk c with
  | false =>
    have e : crewOutcome c = ⟨[], [], [], false⟩ := by rw [crewOutcome, hv]; rfl
    rw [e] at h
    repeat' (first | simp -implicitDefEqProofs only [zG1,zG2,zG3,zG4,zG5,zG6,zG7,eq_self,resV,rval,X.val,binv,fillL,setR,↓reduceIte,Nat.reduceEqDiff,Nat.reduceAdd,Nat.reduceMul,Nat.reduceLeDiff,Nat.reduceLT,Nat.reduceSub,reduceCtorEq,zGp, r1, hv] | (with_reducible refine crewValid_ok w0 _ _ c A0 c0 A1 c1 A2 c2 A5 c5 hc1 hb ?_))
    refine st_own k2 ocz rfl rfl (by simp) (by simp [ocS, Value.oneCell']) (fun C2 hc2 k2 => ?_)
    simp only [setR, List.set_cons_zero, List.set_cons_succ] at k2
    have r2 := rd4 k2
    repeat' (first | simp -implicitDefEqProofs only [zG1,zG2,zG3,zG4,zG5,zG6,zG7,eq_self,resV,rval,X.val,binv,fillL,setR,↓reduceIte,Nat.reduceEqDiff,Nat.reduceAdd,Nat.reduceMul,Nat.reduceLeDiff,Nat.reduceLT,Nat.reduceSub,reduceCtorEq,zGp, r2])
    exact ret_same (h _ _ _ [] [] [] C2 (hc2.keep l1 (New.one h2.2)) (OwO.nil _) (New.nil _) (New.nil _) (New.nil _))
  | true =>
    have e : crewOutcome c = ⟨c.log, c.boxes.map (·.1), endL c, c.last == (c.threads.length : Int)⟩ := by rw [crewOutcome, hv]; rfl
    rw [e] at h
    obtain ⟨ln1, ln2, ln3⟩ := crewOk_len hv
    have ln4 := endL_len ln1
    repeat' (first | simp -implicitDefEqProofs only [zG1,zG2,zG3,zG4,zG5,zG6,zG7,eq_self,resV,rval,X.val,binv,fillL,setR,↓reduceIte,Nat.reduceEqDiff,Nat.reduceAdd,Nat.reduceMul,Nat.reduceLeDiff,Nat.reduceLT,Nat.reduceSub,reduceCtorEq,zGp, r1, hv] | (with_reducible refine crewValid_ok w0 _ _ c A0 c0 A1 c1 A2 c2 A5 c5 hc1 hb ?_))
    repeat' (first | simp -implicitDefEqProofs only [zG1,zG2,zG3,zG4,zG5,zG6,zG7,eq_self,resV,rval,X.val,binv,fillL,setR,↓reduceIte,Nat.reduceEqDiff,Nat.reduceAdd,Nat.reduceMul,Nat.reduceLeDiff,Nat.reduceLT,Nat.reduceSub,reduceCtorEq,zGq, q])
    refine outcomeOf_ok w0 C1 _ A5 c5 c.log A2 c2 c.boxes (c.last == (c.threads.length : Int)) hc1.f5 hb.n5 hc1.f2 hb.n2 hb.m2 (fun v0 v1 C2 b0 b1 l2 n0 n1 a10 kb0 kb1 w0' R1 => ?_)
    obtain ⟨V0, e0, rfl, -⟩ := w0'.fl
    obtain ⟨V1, e1, rfl⟩ := R1.slice
    repeat' (first | simp -implicitDefEqProofs only [zG1,zG2,zG3,zG4,zG5,zG6,zG7,eq_self,resV,rval,X.val,binv,fillL,setR,↓reduceIte,Nat.reduceEqDiff,Nat.reduceAdd,Nat.reduceMul,Nat.reduceLeDiff,Nat.reduceLT,Nat.reduceSub,reduceCtorEq,zGq])
    refine new_intro (fun x3 h3 => ?_)
    have l3' := (AHeap.le.refl C2).fresh h3 ⟨ocz, true, 78, 4⟩
    have k3' := Kn.same C2 x3 ⟨ocz, true, 78, 4⟩
    generalize C2.set x3 _ = C3 at l3' k3' ⊢
    repeat' (first | simp -implicitDefEqProofs only [zG1,zG2,zG3,zG4,zG5,zG6,zG7,eq_self,resV,rval,X.val,binv,fillL,setR,↓reduceIte,Nat.reduceEqDiff,Nat.reduceAdd,Nat.reduceMul,Nat.reduceLeDiff,Nat.reduceLT,Nat.reduceSub,reduceCtorEq,zGq])
    refine st_own k3' [.slice V0 c.log.length e0, .slice V1 (boxI c.boxes).length e1, .slice none 0 0, .bool (c.last == (c.threads.length : Int))] rfl rfl (by simp) (by simp [ocS, Value.oneCell']) (fun C4 h4 k3 => ?_)
    simp only [setR, List.set_cons_zero, List.set_cons_succ] at k3
    have l4 : AHeap.le C2 C4 := h4.keep l3' (New.one h3)
    have k12 := k1.trans l2
    have k22 := k2.trans l2
    have n31 : ¬ x1 = x3 := by rintro rfl; exact k12.ne h3
    have n32 : ¬ x2 = x3 := by rintro rfl; exact k22.ne h3
    have q1 := kn6 (k12.trans l4)
    repeat' (first | simp -implicitDefEqProofs only [zG1,zG2,zG3,zG4,zG5,zG6,zG7,eq_self,resV,rval,X.val,binv,fillL,setR,↓reduceIte,Nat.reduceEqDiff,Nat.reduceAdd,Nat.reduceMul,Nat.reduceLeDiff,Nat.reduceLT,Nat.reduceSub,reduceCtorEq,zGq, q1])
    refine for_rule c.threads.length (fun k fr C => ∃ v2 b2, AHeap.le C2 C ∧ New C2 b2 ∧ Rw C 4 1 v2 k (bools ((endL c).take k)) b2 ∧ ¬ x3 ∈ b2 ∧
        Kn C x3 ⟨[.slice V0 c.log.length e0, .slice V1 (boxI c.boxes).length e1, v2, .bool (c.last == (c.threads.length : Int))], true, 78, 4⟩ ∧ fr 1 = .pointer (some ⟨x1, 0, none⟩) ∧ fr 2 = .pointer (some ⟨x2, 0, none⟩) ∧ fr 3 = .pointer (some ⟨x3, 0, none⟩) ∧ fr 22 = .slice A1 c.threads.length c1 ∧ fr 23 = .int .i64 c.threads.length ∧ fr 24 = .int .i64 k)
      ⟨_, [], l4, New.nil _, .inl ⟨rfl, rfl, rfl, rfl⟩, by simp, k3, (by first | rfl | (simp only [put_at, ↓reduceIte, Nat.reduceEqDiff]; first | done | rfl | assumption) | simp [put_at, *]), (by first | rfl | (simp only [put_at, ↓reduceIte, Nat.reduceEqDiff]; first | done | rfl | assumption) | simp [put_at, *]), (by first | rfl | (simp only [put_at, ↓reduceIte, Nat.reduceEqDiff]; first | done | rfl | assumption) | simp [put_at, *]), (by first | rfl | (simp only [put_at, ↓reduceIte, Nat.reduceEqDiff]; first | done | rfl | assumption) | simp [put_at, *]), (by first | rfl | (simp only [put_at, ↓reduceIte, Nat.reduceEqDiff]; first | done | rfl | assumption) | simp [put_at, *]), (by first | rfl | (simp only [put_at, ↓reduceIte, Nat.reduceEqDiff]; first | done | rfl | assumption) | simp [put_at, *])⟩ ?_ ?_
    · rintro k fr C hk ⟨v2, b2, hle, hn2, w2, n3b, k3, f1, f2, f3, f22, f23, f24⟩ N hN
      have hk2 : k < c.codes.length := by omega
      have g0 := lt_dec hk
      have g1 := rng hk
      have g1' := rng hk2
      have g2 := up1 hk (by omega)
      obtain ⟨V2, e2, rfl, -⟩ := w2.fl
      have hcC := hc.le (l1.trans (l2.trans hle))
      obtain ⟨gA, B', d', p1, p2, fm⟩ := hcC.f1 k hk
      rw [Nat.add_zero] at p1
      repeat' (first | simp -implicitDefEqProofs only [zG1,zG2,zG3,zG4,zG5,zG6,zG7,eq_self,resV,rval,X.val,binv,fillL,setR,↓reduceIte,Nat.reduceEqDiff,Nat.reduceAdd,Nat.reduceMul,Nat.reduceLeDiff,Nat.reduceLT,Nat.reduceSub,reduceCtorEq,zGq, f1, f2, f3, f22, f23, f24, g0, g1, gA, p1, p2])
      refine new_intro (fun x5 h5 => ?_)
      have l5' := (AHeap.le.refl C).fresh h5 ⟨[.slice none 0 0, .int .i64 0], true, 125, 2⟩
      have k5' := Kn.same C x5 ⟨[.slice none 0 0, .int .i64 0], true, 125, 2⟩
      generalize C.set x5 _ = C5 at l5' k5' ⊢
      repeat' (first | simp -implicitDefEqProofs only [zG1,zG2,zG3,zG4,zG5,zG6,zG7,eq_self,resV,rval,X.val,binv,fillL,setR,↓reduceIte,Nat.reduceEqDiff,Nat.reduceAdd,Nat.reduceMul,Nat.reduceLeDiff,Nat.reduceLT,Nat.reduceSub,reduceCtorEq,zGq, f24])
      refine st_own k5' [.slice B' c.threads[k].1.length d', .int .i64 c.threads[k].2] rfl rfl (by simp) (by simp [ocS, ocI]) (fun C6 h6 k5 => ?_)
      simp only [setR, List.set_cons_zero, List.set_cons_succ] at k5
      have l6 : AHeap.le C C6 := h6.keep l5' (New.one h5)
      have k36 := k3.trans l6
      have z3 := k36.cell (j := 2) rfl
      have z5 := k5.cell (j := 1) rfl
      have z1 := (k12.trans (hle.trans l6)).cell (j := 0) rfl
      obtain ⟨gC, A', c', z6, fl⟩ := (hcC.le l6).f0 k hk2
      obtain ⟨t0, t1⟩ := crewOk_at hv hk hk2
      obtain ⟨n, hn, hnt, hne⟩ := endB_at t0 t1
      have pA := fl.qd_is hn
      have p0 := fl.q0 hn
      have g3 := rng hn
      rw [hnt] at z5
      repeat' (first | simp -implicitDefEqProofs only [zG1,zG2,zG3,zG4,zG5,zG6,zG7,eq_self,resV,rval,X.val,binv,fillL,setR,↓reduceIte,Nat.reduceEqDiff,Nat.reduceAdd,Nat.reduceMul,Nat.reduceLeDiff,Nat.reduceLT,Nat.reduceSub,reduceCtorEq,zGq, f1, f2, f3, f22, f23, f24, g1, g1', g3, gC, z1, z3, z5, z6, pA, p0, Nat.mul_one, Nat.add_zero] | ((with_reducible refine rows_intro (fun _ hb => ?_)); try simp only [set_none, ne_eq] at hb) | ((with_reducible refine new_intro (fun _ hb => ?_)); try simp only [set_none, ne_eq] at hb) | (with_reducible refine draw_same ?_) | ((with_reducible refine gd_split ?_ (fun _ => ?_) (fun _ => ?_)); exact rfl) | ((with_reducible refine td_split ?_ (fun _ => ?_) (fun _ => ?_)); exact rfl) | (with_reducible refine c_split (fun _ => ?_) (fun _ => ?_)))
      rename_i x10
      have h10 : C6 x10 = none := by assumption
      have l10 := (AHeap.le.refl C6).fresh h10 ⟨[.bool (c.codes[k][n].op == 10)], true, 4, 1⟩
      have fl10 : Fl (C6.set x10 ⟨[.bool (c.codes[k][n].op == 10)], true, 4, 1⟩) (some ⟨x10, 0, none⟩) [.bool (c.codes[k][n].op == 10)] := Fl.blk _ _ _ _ fun _ _ h => h
      generalize C6.set x10 _ = C7 at l10 fl10 ⊢
      refine ⟨l10, ?_⟩
      have L7 := hle.trans (l6.trans l10)
      refine app_rw (news := [.bool (c.codes[k][n].op == 10)]) (w2.trans (l6.trans l10)) fl10 rfl (by simp [Value.oneCell']) (by simp only [maxLen]; omega) (by omega) (fun v8 C8 b8 h8 n8 w8 => ?_)
      have k38 := (k36.trans l10).chg h8 n3b
      have z38 : C7 x3 ≠ none := (k36.trans l10).ne
      have n38 : ¬ x3 ∈ b8 := fun hm => (n8 _ hm).elim n3b z38
      have new8 : New C2 b8 := fun y hy => (n8 y hy).elim (hn2 y) fun hm => L7.none hm
      have eqB : bools ((endL c).take k) ++ [.bool (c.codes[k][n].op == 10)] = bools ((endL c).take (k + 1)) := by
        rw [endL_take hk hk2, hne]; simp [bools]
      simp only [List.length_cons, List.length_nil, Nat.zero_add] at w8
      rw [eqB] at w8
      obtain ⟨V8, e8, rfl, -⟩ := w8.fl
      have L8 := h8.keep L7 hn2
      repeat' (first | simp -implicitDefEqProofs only [zG1,zG2,zG3,zG4,zG5,zG6,zG7,eq_self,resV,rval,X.val,binv,fillL,setR,↓reduceIte,Nat.reduceEqDiff,Nat.reduceAdd,Nat.reduceMul,Nat.reduceLeDiff,Nat.reduceLT,Nat.reduceSub,reduceCtorEq,zGq, f1, f2, f3, f22, f23, f24])
      refine st_own k38 [_] rfl rfl (by simp) (by simp [ocS]) (fun C9 h9 k9 => ?_)
      simp only [setR, List.set_cons_zero, List.set_cons_succ] at k9
      repeat' (first | simp -implicitDefEqProofs only [zG1,zG2,zG3,zG4,zG5,zG6,zG7,eq_self,resV,rval,X.val,binv,fillL,setR,↓reduceIte,Nat.reduceEqDiff,Nat.reduceAdd,Nat.reduceMul,Nat.reduceLeDiff,Nat.reduceLT,Nat.reduceSub,reduceCtorEq,zGq, f1, f2, f3, f22, f23, f24, g2])
      exact hN _ _ _ (.refl _) ⟨_, b8, h9.keep L8 (New.one h3), new8, w8.chg h9 (na1 n38), n38, k9, (by first | rfl | (simp only [put_at, ↓reduceIte, Nat.reduceEqDiff]; first | done | rfl | assumption) | simp [put_at, *]), (by first | rfl | (simp only [put_at, ↓reduceIte, Nat.reduceEqDiff]; first | done | rfl | assumption) | simp [put_at, *]), (by first | rfl | (simp only [put_at, ↓reduceIte, Nat.reduceEqDiff]; first | done | rfl | assumption) | simp [put_at, *]), (by first | rfl | (simp only [put_at, ↓reduceIte, Nat.reduceEqDiff]; first | done | rfl | assumption) | simp [put_at, *]), (by first | rfl | (simp only [put_at, ↓reduceIte, Nat.reduceEqDiff]; first | done | rfl | assumption) | simp [put_at, *]), (by first | rfl | (simp only [put_at, ↓reduceIte, Nat.reduceEqDiff]; first | done | rfl | assumption) | simp [put_at, *])⟩
    · rintro fr C ⟨v2, b2, hle, hn2, w2, n3b, k3, f1, f2, f3, f22, f23, f24⟩ N
      have g0 : decide ((c.threads.length : Int) < (c.threads.length : Int)) = false := by simp
      obtain ⟨V2, e2, rfl, -⟩ := w2.fl
      have r3 := rd4 k3
      repeat' (first | simp -implicitDefEqProofs only [zG1,zG2,zG3,zG4,zG5,zG6,zG7,eq_self,resV,rval,X.val,binv,fillL,setR,↓reduceIte,Nat.reduceEqDiff,Nat.reduceAdd,Nat.reduceMul,Nat.reduceLeDiff,Nat.reduceLT,Nat.reduceSub,reduceCtorEq,zGp, f1, f2, f3, f22, f23, f24, g0, r3])
      refine st_own (k22.trans hle) [.slice V0 c.log.length e0, .slice V1 (boxI c.boxes).length e1, .slice V2 c.threads.length e2, .bool (c.last == (c.threads.length : Int))] rfl rfl (by simp) (by simp [ocS, Value.oneCell']) (fun C9 h9 k9 => ?_)
      simp only [setR, List.set_cons_zero, List.set_cons_succ] at k9
      have r9 := rd4 k9
      have n20 : ¬ x2 ∈ b0 := fun hm => k2.ne (n0 _ hm)
      have n21 : ¬ x2 ∈ b1 := fun hm => k2.ne (n1 _ hm)
      have n22 : ¬ x2 ∈ b2 := fun hm => k22.ne (hn2 _ hm)
      have ew : (endL c).take c.threads.length = endL c := by rw [← ln4, List.take_length]
      rw [ew] at w2
      repeat' (first | simp -implicitDefEqProofs only [zG1,zG2,zG3,zG4,zG5,zG6,zG7,eq_self,resV,rval,X.val,binv,fillL,setR,↓reduceIte,Nat.reduceEqDiff,Nat.reduceAdd,Nat.reduceMul,Nat.reduceLeDiff,Nat.reduceLT,Nat.reduceSub,reduceCtorEq,zGp, f2, r9])
      refine ret_same (h _ _ _ b0 b1 b2 C9 (h9.keep (l1.trans (l2.trans hle)) (New.one h2.2)) ⟨(w0'.trans hle).chg h9 (na1 n20), (R1.trans hle).chg h9 (na1 n21), ?_, a10, fun y hy hm => kb0 y hm (hn2 y hy), fun y hy hm => kb1 y hm (hn2 y hy), fun y hy => ?_⟩ (n0.le l1) (n1.le l1) (hn2.le (l1.trans l2)))
      · have := w2.chg h9 (na1 n22)
        simp only [ln4]
        exact this
      · simp only [List.mem_append] at hy
        rcases hy with hy | hy | hy
        · exact h9.kept (le_kept hle (kb0 y hy)) (na1 n20 y hy)
        · exact h9.kept (le_kept hle (kb1 y hy)) (na1 n21 y hy)
        · exact h9.kept (rw_kn w2 y hy) (na1 n22 y hy)
end
end Go.Proofs.Ytfjhjfddgdokgaa
namespace Go.Proofs.Ytfjhjfddgdokgaa
set_option linter.all false
open Go Go.RowKit
set_option maxRecDepth 100000
variable (w0 : World) (H : AHeap) (K : Value → AHeap → Prop)
theorem eqIntSS_same (A B : Option Addr) (m m' ca cb : Nat) (Z : List (List Int)) (bs bs' : List Nat) (hx : Rs H 35 3 1 (.slice A m ca) (Z.map ints) bs) (hy : Rs H 35 3 1 (.slice B m' cb) (Z.map ints) bs') (hn : Z.length ≤ 1048576) (hr : ∀ x ∈ Z, x.length ≤ 1048576) (h : K (.bool true) H) :
    ACalls Try.prog w0 62 [.slice A m ca, .slice B m' cb] H K := by
  have em := hx.len
  have em' := hy.len
  rw [List.length_map] at em em'
  subst em em'
  refine acalls_of_sx mix Try.func62 of62 (by simp [ir62]) ?_; rw [ir62]; (try delta qT qI qC qO qM qG)
  repeat' (first | simp -implicitDefEqProofs only [zG1,zG2,zG3,zG4,zG5,zG6,zG7,eq_self,resV,rval,X.val,binv,fillL,setR,↓reduceIte,Nat.reduceEqDiff,Nat.reduceAdd,Nat.reduceMul,Nat.reduceLeDiff,Nat.reduceLT,Nat.reduceSub,reduceCtorEq,zGq, bne_self_eq_false] | ((with_reducible refine rows_intro (fun _ hb => ?_)); try simp only [set_none, ne_eq] at hb) | ((with_reducible refine new_intro (fun _ hb => ?_)); try simp only [set_none, ne_eq] at hb) | (with_reducible refine draw_same ?_) | ((with_reducible refine gd_split ?_ (fun _ => ?_) (fun _ => ?_)); exact rfl) | ((with_reducible refine td_split ?_ (fun _ => ?_) (fun _ => ?_)); exact rfl) | (with_reducible refine c_split (fun _ => ?_) (fun _ => ?_)))
  refine for_rule Z.length (fun k fr C => C = H ∧ fr 0 = .slice A Z.length ca ∧ fr 1 = .slice B Z.length cb ∧ fr 5 = .int .i64 k) ⟨rfl, (by first | rfl | (simp only [put_at, ↓reduceIte, Nat.reduceEqDiff]; first | done | rfl | assumption) | simp [put_at, *]), (by first | rfl | (simp only [put_at, ↓reduceIte, Nat.reduceEqDiff]; first | done | rfl | assumption) | simp [put_at, *]), (by first | rfl | (simp only [put_at, ↓reduceIte, Nat.reduceEqDiff]; first | done | rfl | assumption) | simp [put_at, *])⟩ ?_ ?_
  · rintro k fr C hk ⟨rfl, f0, f1, f5⟩ N hN
    have g0 := lt_dec hk
    have g1 := rng hk
    have g3 := up1 hk (by omega)
    obtain ⟨q1, A', n', c', q2, fl, hl⟩ := hx.row (i := k) (by rw [List.length_map]; exact hk)
    obtain ⟨q3, B', n'', c'', q4, fl', hl'⟩ := hy.row (i := k) (by rw [List.length_map]; exact hk)
    rw [List.getElem_map] at fl hl fl' hl'
    rw [ints_len] at hl hl'
    have en : n' = Z[k].length := by omega
    have en' : n'' = Z[k].length := by omega
    subst en en'
    have hb := hr _ (List.getElem_mem hk)
    have d1 : decide (Z[k] = Z[k]) = true := by simp
    repeat' (first | simp -implicitDefEqProofs only [zG1,zG2,zG3,zG4,zG5,zG6,zG7,eq_self,resV,rval,X.val,binv,fillL,setR,↓reduceIte,Nat.reduceEqDiff,Nat.reduceAdd,Nat.reduceMul,Nat.reduceLeDiff,Nat.reduceLT,Nat.reduceSub,reduceCtorEq,zGq, f0, f1, f5, g0, g1, g3, q1, q2, q3, q4, d1, decide_true, Nat.mul_one] | ((with_reducible refine rows_intro (fun _ hb => ?_)); try simp only [set_none, ne_eq] at hb) | ((with_reducible refine new_intro (fun _ hb => ?_)); try simp only [set_none, ne_eq] at hb) | (with_reducible refine draw_same ?_) | ((with_reducible refine gd_split ?_ (fun _ => ?_) (fun _ => ?_)); exact rfl) | ((with_reducible refine td_split ?_ (fun _ => ?_) (fun _ => ?_)); exact rfl) | (with_reducible refine c_split (fun _ => ?_) (fun _ => ?_)) | (with_reducible refine eqIntS_ok _ _ _ A' B' c' c'' Z[k] Z[k] fl fl' (by omega) ?_))

    exact hN _ _ _ (.refl _) ⟨rfl, (by first | rfl | (simp only [put_at, ↓reduceIte, Nat.reduceEqDiff]; first | done | rfl | assumption) | simp [put_at, *]), (by first | rfl | (simp only [put_at, ↓reduceIte, Nat.reduceEqDiff]; first | done | rfl | assumption) | simp [put_at, *]), (by first | rfl | (simp only [put_at, ↓reduceIte, Nat.reduceEqDiff]; first | done | rfl | assumption) | simp [put_at, *])⟩
  · rintro fr C ⟨rfl, f0, f1, f5⟩ N
    have g0 : decide ((Z.length : Int) < (Z.length : Int)) = false := by simp
    repeat' (first | simp -implicitDefEqProofs only [zG1,zG2,zG3,zG4,zG5,zG6,zG7,eq_self,resV,rval,X.val,binv,fillL,setR,↓reduceIte,Nat.reduceEqDiff,Nat.reduceAdd,Nat.reduceMul,Nat.reduceLeDiff,Nat.reduceLT,Nat.reduceSub,reduceCtorEq,zGq, f0, f1, f5, g0] | ((with_reducible refine rows_intro (fun _ hb => ?_)); try simp only [set_none, ne_eq] at hb) | ((with_reducible refine new_intro (fun _ hb => ?_)); try simp only [set_none, ne_eq] at hb) | (with_reducible refine draw_same ?_) | ((with_reducible refine gd_split ?_ (fun _ => ?_) (fun _ => ?_)); exact rfl) | ((with_reducible refine td_split ?_ (fun _ => ?_) (fun _ => ?_)); exact rfl) | (with_reducible refine c_split (fun _ => ?_) (fun _ => ?_)))
    exact ret_same h
theorem markIntSS_rs (A : Option Addr) (m c : Nat) (L : List (List Value)) (bs : List Nat) (k0 : Int) (hR : Rs H 35 3 1 (.slice A m c) L bs) (hn : L.length ≤ 1048576) (h0 : 0 ≤ k0) (h1 : k0 + 1 * (tot 1 L : Int) ≤ 4294967295)
    (h : ∀ C' M, Chg H C' bs → Marked 1 (fun k n => ints (marks k n)) k0 1 L M → Rs C' 35 3 1 (.slice A m c) M bs → K (.int .i64 (k0 + 1 * (tot 1 L : Int))) C') : ACalls Try.prog w0 63 [.slice A m c, .int .i64 k0] H K := by
  have em := hR.len
  subst em
  refine acalls_of_sx mix Try.func63 of63 (by simp [ir63]) ?_; rw [ir63]; (try delta qT qI qC qO qM qG)
  repeat' (first | simp -implicitDefEqProofs only [zG1,zG2,zG3,zG4,zG5,zG6,zG7,eq_self,resV,rval,X.val,binv,fillL,setR,↓reduceIte,Nat.reduceEqDiff,Nat.reduceAdd,Nat.reduceMul,Nat.reduceLeDiff,Nat.reduceLT,Nat.reduceSub,reduceCtorEq,zGq] | ((with_reducible refine rows_intro (fun _ hb => ?_)); try simp only [set_none, ne_eq] at hb) | ((with_reducible refine new_intro (fun _ hb => ?_)); try simp only [set_none, ne_eq] at hb) | (with_reducible refine draw_same ?_) | ((with_reducible refine gd_split ?_ (fun _ => ?_) (fun _ => ?_)); exact rfl) | ((with_reducible refine td_split ?_ (fun _ => ?_) (fun _ => ?_)); exact rfl) | (with_reducible refine c_split (fun _ => ?_) (fun _ => ?_)))
  refine for_rule L.length (fun i fr C => ∃ M, Chg H C bs ∧ Midd 1 (fun k n => ints (marks k n)) k0 1 L M i ∧ Rs C 35 3 1 (.slice A L.length c) M bs ∧ fr 0 = .slice A L.length c ∧ fr 1 = .int .i64 (k0 + 1 * (tot 1 (L.take i) : Int)) ∧ fr 5 = .int .i64 i)
    ⟨L, Chg.refl _ _, Midd.start, hR, (by first | rfl | (simp only [put_at, ↓reduceIte, Nat.reduceEqDiff]; first | done | rfl | assumption) | simp [put_at, *]), by simp [fr0, put_at, tot], (by first | rfl | (simp only [put_at, ↓reduceIte, Nat.reduceEqDiff]; first | done | rfl | assumption) | simp [put_at, *])⟩ ?_ ?_
  · rintro i fr C hi ⟨M, hc, hM, hR', f0, f1, f5⟩ N hN
    have hMl := hM.1
    have g0 := lt_dec hi
    have g1 := rng hi
    have g3 := up1 hi (by omega)
    obtain ⟨q1, x, ib, n, q2, wx, hib, -, put⟩ := hR'.inner (i := i) (by omega)
    obtain ⟨A', c', rfl⟩ := wx.slice
    have hlen := wx.len
    have hMi : M[i]'(by omega) = L[i] := hM.at_ hi
    rw [hMi] at wx hlen
    have htk := tot_take (sz := 1) hi hlen
    have hts := tot_take_le 1 L (i + 1)
    repeat' (first | simp -implicitDefEqProofs only [zG1,zG2,zG3,zG4,zG5,zG6,zG7,eq_self,resV,rval,X.val,binv,fillL,setR,↓reduceIte,Nat.reduceEqDiff,Nat.reduceAdd,Nat.reduceMul,Nat.reduceLeDiff,Nat.reduceLT,Nat.reduceSub,reduceCtorEq,zGq, f0, f1, f5, g0, g1, q1, q2, Nat.mul_one] | ((with_reducible refine rows_intro (fun _ hb => ?_)); try simp only [set_none, ne_eq] at hb) | ((with_reducible refine new_intro (fun _ hb => ?_)); try simp only [set_none, ne_eq] at hb) | (with_reducible refine draw_same ?_) | ((with_reducible refine gd_split ?_ (fun _ => ?_) (fun _ => ?_)); exact rfl) | ((with_reducible refine td_split ?_ (fun _ => ?_) (fun _ => ?_)); exact rfl) | (with_reducible refine c_split (fun _ => ?_) (fun _ => ?_)))
    refine markIntS_rw _ _ _ wx (by omega) _ (by omega) (by omega) (fun C2 hc2 w2 => ?_)
    have R2 := put C2 _ hc2 w2
    have e1 : k0 + 1 * (tot 1 (L.take i) : Int) + (n : Int) = k0 + 1 * (tot 1 (L.take (i + 1)) : Int) := by rw [htk]; push_cast; omega
    rw [e1]
    repeat' (first | simp -implicitDefEqProofs only [zG1,zG2,zG3,zG4,zG5,zG6,zG7,eq_self,resV,rval,X.val,binv,fillL,setR,↓reduceIte,Nat.reduceEqDiff,Nat.reduceAdd,Nat.reduceMul,Nat.reduceLeDiff,Nat.reduceLT,Nat.reduceSub,reduceCtorEq,zGq, f0, f1, f5, g3] | ((with_reducible refine rows_intro (fun _ hb => ?_)); try simp only [set_none, ne_eq] at hb) | ((with_reducible refine new_intro (fun _ hb => ?_)); try simp only [set_none, ne_eq] at hb) | (with_reducible refine draw_same ?_) | ((with_reducible refine gd_split ?_ (fun _ => ?_) (fun _ => ?_)); exact rfl) | ((with_reducible refine td_split ?_ (fun _ => ?_) (fun _ => ?_)); exact rfl) | (with_reducible refine c_split (fun _ => ?_) (fun _ => ?_)))
    refine hN _ _ _ (.refl _) ⟨_, hc.trans (hc2.mono hib), hM.step hi hlen, R2, (by first | rfl | (simp only [put_at, ↓reduceIte, Nat.reduceEqDiff]; first | done | rfl | assumption) | simp [put_at, *]), (by first | rfl | (simp only [put_at, ↓reduceIte, Nat.reduceEqDiff]; first | done | rfl | assumption) | simp [put_at, *]), (by first | rfl | (simp only [put_at, ↓reduceIte, Nat.reduceEqDiff]; first | done | rfl | assumption) | simp [put_at, *])⟩
  · rintro fr C ⟨M, hc, hM, hR', f0, f1, f5⟩ N
    have g0 : decide ((L.length : Int) < (L.length : Int)) = false := by simp
    rw [List.take_length] at f1
    repeat' (first | simp -implicitDefEqProofs only [zG1,zG2,zG3,zG4,zG5,zG6,zG7,eq_self,resV,rval,X.val,binv,fillL,setR,↓reduceIte,Nat.reduceEqDiff,Nat.reduceAdd,Nat.reduceMul,Nat.reduceLeDiff,Nat.reduceLT,Nat.reduceSub,reduceCtorEq,zGq, f0, f1, f5, g0] | ((with_reducible refine rows_intro (fun _ hb => ?_)); try simp only [set_none, ne_eq] at hb) | ((with_reducible refine new_intro (fun _ hb => ?_)); try simp only [set_none, ne_eq] at hb) | (with_reducible refine draw_same ?_) | ((with_reducible refine gd_split ?_ (fun _ => ?_) (fun _ => ?_)); exact rfl) | ((with_reducible refine td_split ?_ (fun _ => ?_) (fun _ => ?_)); exact rfl) | (with_reducible refine c_split (fun _ => ?_) (fun _ => ?_)))
    exact ret_same (h _ M hc hM.done hR')
theorem heldIntSS_ok (A : Option Addr) (m c : Nat) (L M : List (List Value)) (bs : List Nat) (k0 : Int) (hR : Rs H 35 3 1 (.slice A m c) M bs) (hL : ∀ x ∈ L, ∃ n, x.length = n * 1) (hn : L.length ≤ 1048576) (hM : Marked 1 (fun k n => ints (marks k n)) k0 1 L M) (h0 : 0 ≤ k0) (h1 : k0 + 1 * (tot 1 L : Int) ≤ 4294967295)
    (h : K (.int .i64 (k0 + 1 * (tot 1 L : Int))) H) : ACalls Try.prog w0 64 [.slice A m c, .int .i64 k0] H K := by
  have em := hR.len
  rw [hM.1] at em
  subst em
  refine acalls_of_sx mix Try.func64 of64 (by simp [ir64]) ?_; rw [ir64]; (try delta qT qI qC qO qM qG)
  repeat' (first | simp -implicitDefEqProofs only [zG1,zG2,zG3,zG4,zG5,zG6,zG7,eq_self,resV,rval,X.val,binv,fillL,setR,↓reduceIte,Nat.reduceEqDiff,Nat.reduceAdd,Nat.reduceMul,Nat.reduceLeDiff,Nat.reduceLT,Nat.reduceSub,reduceCtorEq,zGq] | ((with_reducible refine rows_intro (fun _ hb => ?_)); try simp only [set_none, ne_eq] at hb) | ((with_reducible refine new_intro (fun _ hb => ?_)); try simp only [set_none, ne_eq] at hb) | (with_reducible refine draw_same ?_) | ((with_reducible refine gd_split ?_ (fun _ => ?_) (fun _ => ?_)); exact rfl) | ((with_reducible refine td_split ?_ (fun _ => ?_) (fun _ => ?_)); exact rfl) | (with_reducible refine c_split (fun _ => ?_) (fun _ => ?_)))
  refine for_rule L.length (fun i fr C => C = H ∧ fr 0 = .slice A L.length c ∧ fr 1 = .int .i64 (k0 + 1 * (tot 1 (L.take i) : Int)) ∧ fr 5 = .int .i64 i)
    ⟨rfl, (by first | rfl | (simp only [put_at, ↓reduceIte, Nat.reduceEqDiff]; first | done | rfl | assumption) | simp [put_at, *]), by simp [fr0, put_at, tot], (by first | rfl | (simp only [put_at, ↓reduceIte, Nat.reduceEqDiff]; first | done | rfl | assumption) | simp [put_at, *])⟩ ?_ ?_
  · rintro i fr C hi ⟨rfl, f0, f1, f5⟩ N hN
    have g0 := lt_dec hi
    have g1 := rng hi
    have g3 := up1 hi (by omega)
    obtain ⟨n, hlen⟩ := hL _ (List.getElem_mem hi)
    obtain ⟨q1, A', n', c', q2, fl, hl⟩ := hR.row (i := i) (by rw [hM.1]; exact hi)
    have hMi := hM.at_ hi hlen
    rw [hMi] at fl hl
    have en : n' = n := by
      simp only [ints_len, marks_len] at hl
      omega
    subst en
    have htk := tot_take (sz := 1) hi hlen
    have hts := tot_take_le 1 L (i + 1)
    have d1 : decide (k0 + 1 * (tot 1 (L.take (i + 1)) : Int) < 0) = false := by simp; omega
    repeat' (first | simp -implicitDefEqProofs only [zG1,zG2,zG3,zG4,zG5,zG6,zG7,eq_self,resV,rval,X.val,binv,fillL,setR,↓reduceIte,Nat.reduceEqDiff,Nat.reduceAdd,Nat.reduceMul,Nat.reduceLeDiff,Nat.reduceLT,Nat.reduceSub,reduceCtorEq,zGq, f0, f1, f5, g0, g1, q1, q2, Nat.mul_one] | ((with_reducible refine rows_intro (fun _ hb => ?_)); try simp only [set_none, ne_eq] at hb) | ((with_reducible refine new_intro (fun _ hb => ?_)); try simp only [set_none, ne_eq] at hb) | (with_reducible refine draw_same ?_) | ((with_reducible refine gd_split ?_ (fun _ => ?_) (fun _ => ?_)); exact rfl) | ((with_reducible refine td_split ?_ (fun _ => ?_) (fun _ => ?_)); exact rfl) | (with_reducible refine c_split (fun _ => ?_) (fun _ => ?_)))
    refine heldIntS_ok _ _ _ A' _ c' _ fl (by omega) (by omega) (by omega) ?_
    have e1 : k0 + 1 * (tot 1 (L.take i) : Int) + (n' : Int) = k0 + 1 * (tot 1 (L.take (i + 1)) : Int) := by rw [htk]; push_cast; omega
    rw [e1]
    repeat' (first | simp -implicitDefEqProofs only [zG1,zG2,zG3,zG4,zG5,zG6,zG7,eq_self,resV,rval,X.val,binv,fillL,setR,↓reduceIte,Nat.reduceEqDiff,Nat.reduceAdd,Nat.reduceMul,Nat.reduceLeDiff,Nat.reduceLT,Nat.reduceSub,reduceCtorEq,zGq, f0, f1, f5, g3, d1] | ((with_reducible refine rows_intro (fun _ hb => ?_)); try simp only [set_none, ne_eq] at hb) | ((with_reducible refine new_intro (fun _ hb => ?_)); try simp only [set_none, ne_eq] at hb) | (with_reducible refine draw_same ?_) | ((with_reducible refine gd_split ?_ (fun _ => ?_) (fun _ => ?_)); exact rfl) | ((with_reducible refine td_split ?_ (fun _ => ?_) (fun _ => ?_)); exact rfl) | (with_reducible refine c_split (fun _ => ?_) (fun _ => ?_)))
    exact hN _ _ _ (.refl _) ⟨rfl, (by first | rfl | (simp only [put_at, ↓reduceIte, Nat.reduceEqDiff]; first | done | rfl | assumption) | simp [put_at, *]), (by first | rfl | (simp only [put_at, ↓reduceIte, Nat.reduceEqDiff]; first | done | rfl | assumption) | simp [put_at, *]), (by first | rfl | (simp only [put_at, ↓reduceIte, Nat.reduceEqDiff]; first | done | rfl | assumption) | simp [put_at, *])⟩
  · rintro fr C ⟨rfl, f0, f1, f5⟩ N
    have g0 : decide ((L.length : Int) < (L.length : Int)) = false := by simp
    rw [List.take_length] at f1
    repeat' (first | simp -implicitDefEqProofs only [zG1,zG2,zG3,zG4,zG5,zG6,zG7,eq_self,resV,rval,X.val,binv,fillL,setR,↓reduceIte,Nat.reduceEqDiff,Nat.reduceAdd,Nat.reduceMul,Nat.reduceLeDiff,Nat.reduceLT,Nat.reduceSub,reduceCtorEq,zGq, f0, f1, f5, g0] | ((with_reducible refine rows_intro (fun _ hb => ?_)); try simp only [set_none, ne_eq] at hb) | ((with_reducible refine new_intro (fun _ hb => ?_)); try simp only [set_none, ne_eq] at hb) | (with_reducible refine draw_same ?_) | ((with_reducible refine gd_split ?_ (fun _ => ?_) (fun _ => ?_)); exact rfl) | ((with_reducible refine td_split ?_ (fun _ => ?_) (fun _ => ?_)); exact rfl) | (with_reducible refine c_split (fun _ => ?_) (fun _ => ?_)))
    exact ret_same h
end Go.Proofs.Ytfjhjfddgdokgaa
