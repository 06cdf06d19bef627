/- The statement FnExactCompileSize holds for all arguments; part 2 of the texts that show it. No further condition. -/
import Derived.Test.YtfjhjfddgdokgaaFnExactCompileSizeP1
namespace Go.Proofs.Ytfjhjfddgdokgaa
set_option linter.all false
open Go Go.RowKit
set_option maxRecDepth 100000
variable (w0 : World)
/-- The count's block. -/
abbrev ck (q : Int) : Blk := ⟨[.int .i64 q], true, 3, 1⟩
theorem cntL_ge (ss : List St) (k : Nat) (hk : k ≤ ss.length) : cntL (ss.take k) + (ss.length - k) ≤ cntL ss := by
  have h1 := cntL_app (ss.take k) (ss.drop k)
  have h2 := cntL_len (ss.drop k)
  rw [List.take_append_drop] at h1
  rw [List.length_drop] at h2
  omega
theorem stmtV_of {d : Nat} {s : St} (h : stOk d s = true) : stmtV s = true := by
  unfold stmtV
  split
  · rename_i hk
    obtain ⟨_, _, h1, _⟩ := stOk_block h hk
    exact h1
  · rename_i hk
    exact stOk_simple h (fun e => hk (.inl e)) (fun e => hk (.inr e))
theorem simple_cnt {s : St} (h : stSimple s = true) : s.cnt = 1 := by
  simp only [stSimple, Bool.and_eq_true, List.isEmpty_iff] at h
  rw [s.cnt_eq, h.1.1, h.1.2]; simp [cntL]
theorem ok_of_simple {d : Nat} {s : St} (h2 : ¬ (s.kind = 2 ∨ s.kind = 3)) : stOk d s = stSimple s := by
  cases d <;> (simp only [stOk]; rw [if_neg h2])
theorem ok_of_block {d : Nat} {s : St} (h2 : s.kind = 2 ∨ s.kind = 3) : stOk (d + 1) s = (stBlock s && s.body.all (stOk d) && s.els.all (stOk d)) := by
  simp only [stOk]; rw [if_pos h2]
theorem all_false {d : Nat} {ss : List St} {k : Nat} (hk : k < ss.length) (h : stOk d ss[k] = false) : ss.all (stOk d) = false := by
  rw [List.all_eq_false]
  exact ⟨_, List.getElem_mem hk, by simp [h]⟩
abbrev BvP (d bl : Nat) : Prop := ∀ (ss : List St) (A : Option Addr) (c y q : Nat) (D : AHeap) (K : Value → AHeap → Prop), D y = none → cntL ss ≤ 1048576 → q ≤ 16 → StR D ss A 0 →
  (∀ (r : Bool) (q' : Int), r = (ss.all (stOk d) && decide (q + cntL ss ≤ 16)) → (r = true → q' = ((q + cntL ss : Nat) : Int)) → K (.bool r) (D.set y (ck q'))) →
  ACalls Try.prog w0 176 [.slice A ss.length c, .int .i64 3, .int .i64 bl, .pointer (some ⟨y, 0, none⟩)] (D.set y (ck q)) K
theorem bvP_of (d bl : Nat) (hb3 : bl + d = 3) (ih : ∀ d', d = d' + 1 → BvP w0 d' (bl + 1)) : BvP w0 d bl := by
  intro ss A c y q D K hy hc hq hR h
  have hl := cntL_len ss
  have w1 := nat_add (a := q) (b := ss.length) (by omega)
  refine acalls_of_sx mix Try.func176 of176 (by simp [ir176]) ?_; rw [ir176]; (try delta qT qI qC qO qM qG)
  by_cases hbig : 16 < q + ss.length
  · have g0 : decide (((q + ss.length : Nat) : Int) > 16) = true := by simp; omega
    repeat' (first | simp -implicitDefEqProofs only [zG1,zG2,zG3,zG4,zG5,zG6,zG7,eq_self,resV,rval,X.val,binv,fillL,setR,↓reduceIte,Nat.reduceEqDiff,Nat.reduceAdd,Nat.reduceMul,Nat.reduceLeDiff,Nat.reduceLT,Nat.reduceSub,reduceCtorEq,zGq, w1, g0] | ((with_reducible refine rows_intro (fun _ hb => ?_)); try simp only [set_none, ne_eq] at hb) | ((with_reducible refine new_intro (fun _ hb => ?_)); try simp only [set_none, ne_eq] at hb) | (with_reducible refine draw_same ?_) | ((with_reducible refine gd_split ?_ (fun _ => ?_) (fun _ => ?_)); exact rfl) | ((with_reducible refine td_split ?_ (fun _ => ?_) (fun _ => ?_)); exact rfl) | (with_reducible refine c_split (fun _ => ?_) (fun _ => ?_)))
    refine ret_same (h false _ ?_ (fun e => by cases e))
    have : ¬ q + cntL ss ≤ 16 := by omega
    simp [this]
  · have g0 : decide (((q + ss.length : Nat) : Int) > 16) = false := by simp; omega
    repeat' (first | simp -implicitDefEqProofs only [zG1,zG2,zG3,zG4,zG5,zG6,zG7,eq_self,resV,rval,X.val,binv,fillL,setR,↓reduceIte,Nat.reduceEqDiff,Nat.reduceAdd,Nat.reduceMul,Nat.reduceLeDiff,Nat.reduceLT,Nat.reduceSub,reduceCtorEq,zGq, w1, g0] | ((with_reducible refine rows_intro (fun _ hb => ?_)); try simp only [set_none, ne_eq] at hb) | ((with_reducible refine new_intro (fun _ hb => ?_)); try simp only [set_none, ne_eq] at hb) | (with_reducible refine draw_same ?_) | ((with_reducible refine gd_split ?_ (fun _ => ?_) (fun _ => ?_)); exact rfl) | ((with_reducible refine td_split ?_ (fun _ => ?_) (fun _ => ?_)); exact rfl) | (with_reducible refine c_split (fun _ => ?_) (fun _ => ?_)))
    refine for_rule ss.length (fun k fr C => C = D.set y (ck ((q + ss.length + (cntL (ss.take k) - k) : Nat) : Int)) ∧ q + ss.length + (cntL (ss.take k) - k) ≤ 16 ∧ (∀ i (hi : i < ss.length), i < k → stOk d ss[i] = true) ∧
        fr 0 = .slice A ss.length c ∧ fr 1 = .int .i64 3 ∧ fr 2 = .int .i64 bl ∧ fr 3 = .pointer (some ⟨y, 0, none⟩) ∧ fr 23 = .int .i64 ss.length ∧ fr 24 = .int .i64 k)
      ⟨by simp [cntL], by simp [cntL]; omega, fun i hi hk => by omega, (by first | rfl | (simp only [put_at, ↓reduceIte, Nat.reduceEqDiff]; first | done | rfl | assumption) | simp [put_at, *]), (by first | rfl | (simp only [put_at, ↓reduceIte, Nat.reduceEqDiff]; first | done | rfl | assumption) | simp [put_at, *]), (by first | rfl | (simp only [put_at, ↓reduceIte, Nat.reduceEqDiff]; first | done | rfl | assumption) | simp [put_at, *]), (by first | rfl | (simp only [put_at, ↓reduceIte, Nat.reduceEqDiff]; first | done | rfl | assumption) | simp [put_at, *]), (by first | rfl | (simp only [put_at, ↓reduceIte, Nat.reduceEqDiff]; first | done | rfl | assumption) | simp [put_at, *]), (by first | rfl | (simp only [put_at, ↓reduceIte, Nat.reduceEqDiff]; first | done | rfl | assumption) | simp [put_at, *])⟩ ?_ ?_
    · rintro k fr _ hk ⟨rfl, hq2, hok, f0, f1, f2, f3, f23, f24⟩ N hN
      have g3 := lt_dec hk
      have g1 := rng hk
      have g2 := up1 hk (by omega)
      have hge := cntL_ge ss (k + 1) (by omega)
      have htk := cntL_take hk
      have hlk : k ≤ cntL (ss.take k) := by
        have := cntL_len (ss.take k)
        rw [List.length_take] at this; omega
      have hcs := ss[k].cnt_eq
      have gbl : decide ((bl : Int) > 3) = false := by simp; omega
      generalize hqk : q + ss.length + (cntL (ss.take k) - k) = qk at *
      have ly := (AHeap.le.refl D).fresh hy (ck (qk : Int))
      obtain ⟨gA, a0, d0, a1, d1, a2, d2, gp0, hx⟩ := hR.arg hk
      have gp := gp0.le ly
      have hxC := hx.le ly
      obtain ⟨hE, ⟨hb1, hbR⟩, hl1, hlR⟩ := hx.parts
      obtain ⟨hEC, -, -⟩ := hxC.parts
      cases hv : stmtV ss[k] with
      | false =>
        have hno : stOk d ss[k] = false := by
          cases hs : stOk d ss[k] with
          | false => rfl
          | true => rw [stmtV_of hs] at hv; cases hv
        repeat' (first | simp -implicitDefEqProofs only [zG1,zG2,zG3,zG4,zG5,zG6,zG7,eq_self,resV,rval,X.val,binv,fillL,setR,↓reduceIte,Nat.reduceEqDiff,Nat.reduceAdd,Nat.reduceMul,Nat.reduceLeDiff,Nat.reduceLT,Nat.reduceSub,reduceCtorEq,zGq, f0, f1, f2, f3, f23, f24, g3, g1, gA, hv] | ((with_reducible refine rows_intro (fun _ hb => ?_)); try simp only [set_none, ne_eq] at hb) | ((with_reducible refine new_intro (fun _ hb => ?_)); try simp only [set_none, ne_eq] at hb) | (with_reducible refine draw_same ?_) | ((with_reducible refine gd_split ?_ (fun _ => ?_) (fun _ => ?_)); exact rfl) | ((with_reducible refine td_split ?_ (fun _ => ?_) (fun _ => ?_)); exact rfl) | (with_reducible refine c_split (fun _ => ?_) (fun _ => ?_)) | (with_reducible refine stmtValid_ok _ _ _ ss[k] A (k * 8) a0 d0 a1 d1 a2 d2 gA gp hEC ?_))
        exact ret_same (h false _ (by rw [all_false hk hno]; rfl) (fun e => by cases e))
      | true =>
        by_cases hkd : ss[k].kind = 2 ∨ ss[k].kind = 3
        · cases d with
          | zero =>
            have hno : stOk 0 ss[k] = false := by simp only [stOk]; rw [if_pos hkd]
            have gb3 : decide ((bl : Int) ≥ 3) = true := by simp; omega
            rcases hkd with e2 | e2
            all_goals
              have hk2 : (ss[k].kind == 2) = decide (ss[k].kind = 2) := rfl
              rw [e2] at gp
              repeat' (first | simp -implicitDefEqProofs only [zG1,zG2,zG3,zG4,zG5,zG6,zG7,eq_self,resV,rval,X.val,binv,fillL,setR,↓reduceIte,Nat.reduceEqDiff,Nat.reduceAdd,Nat.reduceMul,Nat.reduceLeDiff,Nat.reduceLT,Nat.reduceSub,reduceCtorEq,zGq, f0, f1, f2, f3, f23, f24, g3, g1, gA, gp, hv, gbl, gb3, Int.reduceBEq, Int.reduceBNe, bne_self_eq_false] | ((with_reducible refine rows_intro (fun _ hb => ?_)); try simp only [set_none, ne_eq] at hb) | ((with_reducible refine new_intro (fun _ hb => ?_)); try simp only [set_none, ne_eq] at hb) | (with_reducible refine draw_same ?_) | ((with_reducible refine gd_split ?_ (fun _ => ?_) (fun _ => ?_)); exact rfl) | ((with_reducible refine td_split ?_ (fun _ => ?_) (fun _ => ?_)); exact rfl) | (with_reducible refine c_split (fun _ => ?_) (fun _ => ?_)) | (with_reducible refine stmtValid_ok _ _ _ ss[k] A (k * 8) a0 d0 a1 d1 a2 d2 gA (gp0.le ly) hEC ?_))
              exact ret_same (h false _ (by rw [all_false hk hno]; rfl) (fun e => by cases e))
          | succ d' =>
            have ihd := ih d' rfl
            have gb3 : decide ((bl : Int) ≥ 3) = false := by simp; omega
            have gb1 := nat_up (a := bl) (by omega)
            have hokb := ok_of_block (d := d') hkd
            have hsb : stBlock ss[k] = true := by simp only [stmtV, if_pos hkd] at hv; exact hv
            have hno : ∀ r1 : Bool, r1 = false → (r1 = (ss[k].body.all (stOk d') && decide (qk + cntL ss[k].body ≤ 16))) → (ss.all (stOk (d' + 1)) && decide (q + cntL ss ≤ 16)) = false := by
              intro r1 e1 e2
              subst e1
              cases hb : ss[k].body.all (stOk d') with
              | false => rw [all_false hk (by rw [hokb, hb]; simp)]; rfl
              | true =>
                have : ¬ q + cntL ss ≤ 16 := by
                  rw [hb] at e2
                  simp at e2
                  omega
                simp [this]
            have hno2 : ∀ r1 : Bool, r1 = false → (r1 = (ss[k].els.all (stOk d') && decide (qk + cntL ss[k].body + cntL ss[k].els ≤ 16))) → (ss.all (stOk (d' + 1)) && decide (q + cntL ss ≤ 16)) = false := by
              intro r1 e1 e2
              subst e1
              cases hb : ss[k].els.all (stOk d') with
              | false => rw [all_false hk (by rw [hokb, hb]; simp)]; rfl
              | true =>
                have : ¬ q + cntL ss ≤ 16 := by
                  rw [hb] at e2
                  simp at e2
                  omega
                simp [this]
            have fin : ∀ (fr' : Fr), (ss[k].body.all (stOk d')) = true → (ss[k].els.all (stOk d')) = true → qk + cntL ss[k].body + cntL ss[k].els ≤ 16 → fr' 0 = .slice A ss.length c → fr' 1 = .int .i64 3 → fr' 2 = .int .i64 bl → fr' 3 = .pointer (some ⟨y, 0, none⟩) → fr' 23 = .int .i64 ss.length → fr' 24 = .int .i64 ((k + 1 : Nat) : Int) →
                N fr' (D.set y (ck ((qk + cntL ss[k].body + cntL ss[k].els : Nat) : Int))) := by
              intro fr' hb1 hb2 hle h0 h1 h2 h3 h23 h24
              refine hN _ _ _ (.refl _) ⟨?_, by omega, fun i hi hik => ?_, h0, h1, h2, h3, h23, h24⟩
              · rw [show q + ss.length + (cntL (ss.take (k + 1)) - (k + 1)) = qk + cntL ss[k].body + cntL ss[k].els by omega]
              · rcases Nat.lt_succ_iff_lt_or_eq.1 hik with hik | rfl
                · exact hok i hi hik
                · rw [hokb, hsb, hb1, hb2]; rfl
            rcases hkd with e2 | e2
            all_goals
              rw [e2] at gp
              repeat' (first | simp -implicitDefEqProofs only [zG1,zG2,zG3,zG4,zG5,zG6,zG7,eq_self,resV,rval,X.val,binv,fillL,setR,↓reduceIte,Nat.reduceEqDiff,Nat.reduceAdd,Nat.reduceMul,Nat.reduceLeDiff,Nat.reduceLT,Nat.reduceSub,reduceCtorEq,zGq, f0, f1, f2, f3, f23, f24, g3, g1, gA, gp, hv, gbl, gb3, gb1, Int.reduceBEq, Int.reduceBNe, bne_self_eq_false] | ((with_reducible refine rows_intro (fun _ hb => ?_)); try simp only [set_none, ne_eq] at hb) | ((with_reducible refine new_intro (fun _ hb => ?_)); try simp only [set_none, ne_eq] at hb) | (with_reducible refine draw_same ?_) | ((with_reducible refine gd_split ?_ (fun _ => ?_) (fun _ => ?_)); exact rfl) | ((with_reducible refine td_split ?_ (fun _ => ?_) (fun _ => ?_)); exact rfl) | (with_reducible refine c_split (fun _ => ?_) (fun _ => ?_)) | (with_reducible refine stmtValid_ok _ _ _ ss[k] A (k * 8) a0 d0 a1 d1 a2 d2 gA (gp0.le ly) hEC ?_))
              refine ihd ss[k].body a1 d1 y qk D _ hy (by omega) hq2 hbR (fun r1 q1 hr1 hq1 => ?_)
              have gp1 := gp0.le ((AHeap.le.refl D).fresh hy (ck q1))
              rw [e2] at gp1
              cases r1 with
              | false =>
                repeat' (first | simp -implicitDefEqProofs only [zG1,zG2,zG3,zG4,zG5,zG6,zG7,eq_self,resV,rval,X.val,binv,fillL,setR,↓reduceIte,Nat.reduceEqDiff,Nat.reduceAdd,Nat.reduceMul,Nat.reduceLeDiff,Nat.reduceLT,Nat.reduceSub,reduceCtorEq,zGq, f0, f1, f2, f3, f23, f24, gp1] | ((with_reducible refine rows_intro (fun _ hb => ?_)); try simp only [set_none, ne_eq] at hb) | ((with_reducible refine new_intro (fun _ hb => ?_)); try simp only [set_none, ne_eq] at hb) | (with_reducible refine draw_same ?_) | ((with_reducible refine gd_split ?_ (fun _ => ?_) (fun _ => ?_)); exact rfl) | ((with_reducible refine td_split ?_ (fun _ => ?_) (fun _ => ?_)); exact rfl) | (with_reducible refine c_split (fun _ => ?_) (fun _ => ?_)))
                exact ret_same (h false _ (hno false rfl hr1).symm (fun e => by cases e))
              | true =>
                obtain rfl := hq1 rfl
                have hr1' := hr1.symm
                simp only [Bool.and_eq_true, decide_eq_true_eq] at hr1'
                repeat' (first | simp -implicitDefEqProofs only [zG1,zG2,zG3,zG4,zG5,zG6,zG7,eq_self,resV,rval,X.val,binv,fillL,setR,↓reduceIte,Nat.reduceEqDiff,Nat.reduceAdd,Nat.reduceMul,Nat.reduceLeDiff,Nat.reduceLT,Nat.reduceSub,reduceCtorEq,zGq, f0, f1, f2, f3, f23, f24, gA, gp1, gb1] | ((with_reducible refine rows_intro (fun _ hb => ?_)); try simp only [set_none, ne_eq] at hb) | ((with_reducible refine new_intro (fun _ hb => ?_)); try simp only [set_none, ne_eq] at hb) | (with_reducible refine draw_same ?_) | ((with_reducible refine gd_split ?_ (fun _ => ?_) (fun _ => ?_)); exact rfl) | ((with_reducible refine td_split ?_ (fun _ => ?_) (fun _ => ?_)); exact rfl) | (with_reducible refine c_split (fun _ => ?_) (fun _ => ?_)))
                refine ihd ss[k].els a2 d2 y (qk + cntL ss[k].body) D _ hy (by omega) hr1'.2 hlR (fun r2 q2 hr2 hq2 => ?_)
                cases r2 with
                | false =>
                  repeat' (first | simp -implicitDefEqProofs only [zG1,zG2,zG3,zG4,zG5,zG6,zG7,eq_self,resV,rval,X.val,binv,fillL,setR,↓reduceIte,Nat.reduceEqDiff,Nat.reduceAdd,Nat.reduceMul,Nat.reduceLeDiff,Nat.reduceLT,Nat.reduceSub,reduceCtorEq,zGq, f0, f1, f2, f3, f23, f24] | ((with_reducible refine rows_intro (fun _ hb => ?_)); try simp only [set_none, ne_eq] at hb) | ((with_reducible refine new_intro (fun _ hb => ?_)); try simp only [set_none, ne_eq] at hb) | (with_reducible refine draw_same ?_) | ((with_reducible refine gd_split ?_ (fun _ => ?_) (fun _ => ?_)); exact rfl) | ((with_reducible refine td_split ?_ (fun _ => ?_) (fun _ => ?_)); exact rfl) | (with_reducible refine c_split (fun _ => ?_) (fun _ => ?_)))
                  exact ret_same (h false _ (hno2 false rfl hr2).symm (fun e => by cases e))
                | true =>
                  obtain rfl := hq2 rfl
                  have hr2' := hr2.symm
                  simp only [Bool.and_eq_true, decide_eq_true_eq] at hr2'
                  repeat' (first | simp -implicitDefEqProofs only [zG1,zG2,zG3,zG4,zG5,zG6,zG7,eq_self,resV,rval,X.val,binv,fillL,setR,↓reduceIte,Nat.reduceEqDiff,Nat.reduceAdd,Nat.reduceMul,Nat.reduceLeDiff,Nat.reduceLT,Nat.reduceSub,reduceCtorEq,zGq, f0, f1, f2, f3, f23, f24, g2] | ((with_reducible refine rows_intro (fun _ hb => ?_)); try simp only [set_none, ne_eq] at hb) | ((with_reducible refine new_intro (fun _ hb => ?_)); try simp only [set_none, ne_eq] at hb) | (with_reducible refine draw_same ?_) | ((with_reducible refine gd_split ?_ (fun _ => ?_) (fun _ => ?_)); exact rfl) | ((with_reducible refine td_split ?_ (fun _ => ?_) (fun _ => ?_)); exact rfl) | (with_reducible refine c_split (fun _ => ?_) (fun _ => ?_)))
                  exact fin _ hr1'.1 hr2'.1 hr2'.2 (by first | rfl | (simp only [put_at, ↓reduceIte, Nat.reduceEqDiff]; first | done | rfl | assumption) | simp [put_at, *]) (by first | rfl | (simp only [put_at, ↓reduceIte, Nat.reduceEqDiff]; first | done | rfl | assumption) | simp [put_at, *]) (by first | rfl | (simp only [put_at, ↓reduceIte, Nat.reduceEqDiff]; first | done | rfl | assumption) | simp [put_at, *]) (by first | rfl | (simp only [put_at, ↓reduceIte, Nat.reduceEqDiff]; first | done | rfl | assumption) | simp [put_at, *]) (by first | rfl | (simp only [put_at, ↓reduceIte, Nat.reduceEqDiff]; first | done | rfl | assumption) | simp [put_at, *]) (by first | rfl | (simp only [put_at, ↓reduceIte, Nat.reduceEqDiff]; first | done | rfl | assumption) | simp [put_at, *])
        · have n2 : (ss[k].kind != 2) = true := by simp only [bne_iff_ne, ne_eq]; exact fun e => hkd (.inl e)
          have n3 : (ss[k].kind != 3) = true := by simp only [bne_iff_ne, ne_eq]; exact fun e => hkd (.inr e)
          have hs : stSimple ss[k] = true := by simp only [stmtV, if_neg hkd] at hv; exact hv
          have h1c := simple_cnt hs
          repeat' (first | simp -implicitDefEqProofs only [zG1,zG2,zG3,zG4,zG5,zG6,zG7,eq_self,resV,rval,X.val,binv,fillL,setR,↓reduceIte,Nat.reduceEqDiff,Nat.reduceAdd,Nat.reduceMul,Nat.reduceLeDiff,Nat.reduceLT,Nat.reduceSub,reduceCtorEq,zGq, f0, f1, f2, f3, f23, f24, g3, g1, g2, gA, gp, hv, gbl, n2, n3] | ((with_reducible refine rows_intro (fun _ hb => ?_)); try simp only [set_none, ne_eq] at hb) | ((with_reducible refine new_intro (fun _ hb => ?_)); try simp only [set_none, ne_eq] at hb) | (with_reducible refine draw_same ?_) | ((with_reducible refine gd_split ?_ (fun _ => ?_) (fun _ => ?_)); exact rfl) | ((with_reducible refine td_split ?_ (fun _ => ?_) (fun _ => ?_)); exact rfl) | (with_reducible refine c_split (fun _ => ?_) (fun _ => ?_)) | (with_reducible refine stmtValid_ok _ _ _ ss[k] A (k * 8) a0 d0 a1 d1 a2 d2 gA gp hEC ?_))
          refine hN _ _ _ (.refl _) ⟨?_, by omega, fun i hi hik => ?_, (by first | rfl | (simp only [put_at, ↓reduceIte, Nat.reduceEqDiff]; first | done | rfl | assumption) | simp [put_at, *]), (by first | rfl | (simp only [put_at, ↓reduceIte, Nat.reduceEqDiff]; first | done | rfl | assumption) | simp [put_at, *]), (by first | rfl | (simp only [put_at, ↓reduceIte, Nat.reduceEqDiff]; first | done | rfl | assumption) | simp [put_at, *]), (by first | rfl | (simp only [put_at, ↓reduceIte, Nat.reduceEqDiff]; first | done | rfl | assumption) | simp [put_at, *]), (by first | rfl | (simp only [put_at, ↓reduceIte, Nat.reduceEqDiff]; first | done | rfl | assumption) | simp [put_at, *]), (by first | rfl | (simp only [put_at, ↓reduceIte, Nat.reduceEqDiff]; first | done | rfl | assumption) | simp [put_at, *])⟩
          · rw [show q + ss.length + (cntL (ss.take (k + 1)) - (k + 1)) = qk by omega]
          · rcases Nat.lt_succ_iff_lt_or_eq.1 hik with hik | rfl
            · exact hok i hi hik
            · rw [ok_of_simple hkd]; exact hs
    · rintro fr _ ⟨rfl, hq2, hok, f0, f1, f2, f3, f23, f24⟩ N
      have g3 : decide ((ss.length : Int) < (ss.length : Int)) = false := by simp
      rw [List.take_length] at hq2 ⊢
      repeat' (first | simp -implicitDefEqProofs only [zG1,zG2,zG3,zG4,zG5,zG6,zG7,eq_self,resV,rval,X.val,binv,fillL,setR,↓reduceIte,Nat.reduceEqDiff,Nat.reduceAdd,Nat.reduceMul,Nat.reduceLeDiff,Nat.reduceLT,Nat.reduceSub,reduceCtorEq,zGq, f0, f1, f2, f3, f23, f24, g3] | ((with_reducible refine rows_intro (fun _ hb => ?_)); try simp only [set_none, ne_eq] at hb) | ((with_reducible refine new_intro (fun _ hb => ?_)); try simp only [set_none, ne_eq] at hb) | (with_reducible refine draw_same ?_) | ((with_reducible refine gd_split ?_ (fun _ => ?_) (fun _ => ?_)); exact rfl) | ((with_reducible refine td_split ?_ (fun _ => ?_) (fun _ => ?_)); exact rfl) | (with_reducible refine c_split (fun _ => ?_) (fun _ => ?_)))
      refine ret_same (h true _ ?_ (fun _ => by omega))
      have : q + cntL ss ≤ 16 := by omega
      rw [eq_comm, Bool.and_eq_true, List.all_eq_true]
      refine ⟨fun x hx => ?_, by simpa using this⟩
      obtain ⟨i, hi, rfl⟩ := List.getElem_of_mem hx
      exact hok i hi hi
theorem bvP : ∀ d bl, bl + d = 3 → BvP w0 d bl
  | 0, bl, h => bvP_of w0 0 bl h fun d' e => by omega
  | d + 1, bl, h => bvP_of w0 (d + 1) bl h fun d' e => by
    obtain rfl : d' = d := (by omega)
    exact bvP d' (bl + 1) (by omega)
theorem stmtsValid_ok (ss : List St) (A : Option Addr) (c : Nat) (H : AHeap) (K : Value → AHeap → Prop) (hc : cntL ss ≤ 1048576) (hR : StR H ss A 0) (h : K (.bool (stsOk ss)) H) :
    ACalls Try.prog w0 69 [.slice A ss.length c] H K := by
  have inner : ∀ (D : Value → AHeap → Prop), D (.bool (stsOk ss)) H → ACalls Try.prog w0 134 [.slice A ss.length c, .int .i64 3] H D := by
    intro D hD
    refine acalls_of_sx mix Try.func134 of134 (by simp [ir134]) ?_; rw [ir134]; (try delta qT qI qC qO qM qG)
    repeat' (first | simp -implicitDefEqProofs only [zG1,zG2,zG3,zG4,zG5,zG6,zG7,eq_self,resV,rval,X.val,binv,fillL,setR,↓reduceIte,Nat.reduceEqDiff,Nat.reduceAdd,Nat.reduceMul,Nat.reduceLeDiff,Nat.reduceLT,Nat.reduceSub,reduceCtorEq,zGq] | ((with_reducible refine rows_intro (fun _ hb => ?_)); try simp only [set_none, ne_eq] at hb) | ((with_reducible refine new_intro (fun _ hb => ?_)); try simp only [set_none, ne_eq] at hb) | (with_reducible refine draw_same ?_) | ((with_reducible refine gd_split ?_ (fun _ => ?_) (fun _ => ?_)); exact rfl) | ((with_reducible refine td_split ?_ (fun _ => ?_) (fun _ => ?_)); exact rfl) | (with_reducible refine c_split (fun _ => ?_) (fun _ => ?_)))
    rename_i y
    refine bvP w0 3 0 rfl ss A c y 0 H _ hb hc (by decide) hR (fun r q' hr _ => ?_)
    have e : r = stsOk ss := by rw [hr, stsOk, Nat.zero_add]
    subst e
    repeat' (first | simp -implicitDefEqProofs only [zG1,zG2,zG3,zG4,zG5,zG6,zG7,eq_self,resV,rval,X.val,binv,fillL,setR,↓reduceIte,Nat.reduceEqDiff,Nat.reduceAdd,Nat.reduceMul,Nat.reduceLeDiff,Nat.reduceLT,Nat.reduceSub,reduceCtorEq,zGq] | ((with_reducible refine rows_intro (fun _ hb => ?_)); try simp only [set_none, ne_eq] at hb) | ((with_reducible refine new_intro (fun _ hb => ?_)); try simp only [set_none, ne_eq] at hb) | (with_reducible refine draw_same ?_) | ((with_reducible refine gd_split ?_ (fun _ => ?_) (fun _ => ?_)); exact rfl) | ((with_reducible refine td_split ?_ (fun _ => ?_) (fun _ => ?_)); exact rfl) | (with_reducible refine c_split (fun _ => ?_) (fun _ => ?_)))
    exact ⟨H, (AHeap.le.refl H).fresh hb _, hD⟩
  refine acalls_of_sx mix Try.func69 of69 (by simp [ir69]) ?_; rw [ir69]; (try delta qT qI qC qO qM qG)
  repeat' (first | simp -implicitDefEqProofs only [zG1,zG2,zG3,zG4,zG5,zG6,zG7,eq_self,resV,rval,X.val,binv,fillL,setR,↓reduceIte,Nat.reduceEqDiff,Nat.reduceAdd,Nat.reduceMul,Nat.reduceLeDiff,Nat.reduceLT,Nat.reduceSub,reduceCtorEq,zGq] | ((with_reducible refine rows_intro (fun _ hb => ?_)); try simp only [set_none, ne_eq] at hb) | ((with_reducible refine new_intro (fun _ hb => ?_)); try simp only [set_none, ne_eq] at hb) | (with_reducible refine draw_same ?_) | ((with_reducible refine gd_split ?_ (fun _ => ?_) (fun _ => ?_)); exact rfl) | ((with_reducible refine td_split ?_ (fun _ => ?_) (fun _ => ?_)); exact rfl) | (with_reducible refine c_split (fun _ => ?_) (fun _ => ?_)) | (with_reducible refine inner _ ?_))
  exact ret_same h
end Go.Proofs.Ytfjhjfddgdokgaa
namespace Go.Proofs.Ytfjhjfddgdokgaa
set_option linter.all false
open Go Go.RowKit
set_option maxRecDepth 100000
variable (w0 : World)
theorem q_oc (q : Qd) : ∀ v ∈ q.cells, v.oneCell' = true := by simp [ocI]
theorem qcells_cons (q : Qd) (l : List Qd) : qcells (q :: l) = q.cells ++ qcells l := by simp [qcells]
theorem qcells_one' (q : Qd) : qcells [q] = q.cells := by simp [qcells]
end Go.Proofs.Ytfjhjfddgdokgaa
namespace Go.Proofs.Ytfjhjfddgdokgaa
set_option linter.all false
open Go Go.RowKit
set_option maxRecDepth 100000
variable (w0 : World)
section
variable {H B C C2 C' : AHeap} {t : TypeId} {sz n : Nat} {v : Value} {xs : List Value}
/-- The row over all else that is known behind it, what was made since too. -/
theorem Row.cutK (h : Row H C t sz v n xs) (l : AHeap.le C C2) : ∃ B, AHeap.le H B ∧ AHeap.le B C2 ∧ Row B C2 t sz v n xs ∧ ∀ (x : Nat) (k : Blk), C x = none → Kn C2 x k → Kn B x k := by
  obtain ⟨bs, l0, nb, w⟩ := h
  refine ⟨C2.no fun b => b ∈ bs, le_no (B := fun b => b ∈ bs) (l0.trans l) nb, no_le _ _, ⟨bs, no_le _ _, fun x hx => no_in hx, w.trans l⟩, fun x k hx hk => hk.chg Chg.no fun hm => ?_⟩
  rcases w with ⟨_, _, _, rfl⟩ | ⟨b', cap, _, rfl, _, _, _, hk'⟩
  · cases hm
  · simp only [List.mem_cons, List.not_mem_nil, or_false] at hm
    subst hm
    exact hk'.ne hx
end
theorem qcells_setn (x : Int) : ∀ (qs : List Qd) (i : Nat) (hi : i < qs.length), (qcells qs).set (i * 5 + 4) (.int .i64 x) = qcells (qs.set i ⟨qs[i].op, qs[i].dst, qs[i].a, qs[i].b, x⟩)
  | q :: qs, 0, _ => rfl
  | q :: qs, i + 1, hi => by
    have ih := qcells_setn x qs i (by simpa using hi)
    rw [qcells_cons, List.set_append_right _ _ (by show 5 ≤ _; omega)]
    have e : (i + 1) * 5 + 4 - q.cells.length = i * 5 + 4 := by show (i + 1) * 5 + 4 - 5 = _; omega
    rw [e, ih]
    rfl
theorem Row.put {H C : AHeap} {t : TypeId} {A : Option Addr} {n c i : Nat} {qs : List Qd} {x : Int} {D : Value → AHeap → Prop} (h : Row H C t 5 (.slice A n c) n (qcells qs)) (hi : i < qs.length) (hn : n = qs.length)
    (hD : ∀ C', Row H C' t 5 (.slice A n c) n (qcells (qs.set i ⟨qs[i].op, qs[i].dst, qs[i].a, qs[i].b, x⟩)) → D undef C') : stK 1 (.pointer (adr A (i * 5 + 4))) (.int .i64 x) D C := by
  obtain ⟨bs, l, nb, w⟩ := h
  obtain ⟨b', cap, e, rfl, h1, h2, h3, hk⟩ := w.open_ (by omega)
  simp only [Value.slice.injEq, true_and] at e
  obtain ⟨rfl, rfl⟩ := e
  rw [adr_lit, Nat.zero_add]
  refine st_kn hk rfl rfl (by show i * 5 + 4 + 1 ≤ (qcells qs).length; rw [qcells_len]; omega) (by simp [vcI, ocI]) (fun C' hc _ k => hD C' ⟨[b'], hc.keep l nb, nb, ?_⟩)
  have e2 : setR (qcells qs) (i * 5 + 4) (Value.int .i64 x).cells.toList = qcells (qs.set i ⟨qs[i].op, qs[i].dst, qs[i].a, qs[i].b, x⟩) := qcells_setn x qs i hi
  simp only at k
  rw [e2] at k
  exact Rw.mk k (by rw [qcells_len, List.length_set, hn]) h1 h2
theorem compileExprR_ok (e : Ex) (a : Option Addr) (c : Nat) (H C : AHeap) (K : Value → AHeap → Prop) (v : Value) (qs : List Qd) (he : exprOk 5 e = true) (hv : ExV H e [.int .i64 e.op, .int .i64 e.n, .slice a e.args.length c]) (hr : Row H C 111 5 v qs.length (qcells qs)) (hm : qs.length ≤ 1099511627700)
    (h : ∀ v' C', Row H C' 111 5 v' (qs ++ compE e).length (qcells (qs ++ compE e)) → K v' C') :
    ACalls Try.prog w0 199 [.agg #[.int .i64 e.op, .int .i64 e.n, .slice a e.args.length c], .int .i64 4, v] C K := by
  obtain ⟨bs, l, nb, w⟩ := hr
  obtain ⟨A, B, hB, ho, hA⟩ := w.own_
  have lA : AHeap.le H A := fun x k hx => by
    rcases hA x with hm | hm
    · rw [nb x hm] at hx; cases hx
    · rw [hm]; exact l x k hx
  refine ACalls.mono (compileExpr_ok w0 5 e a c 4 A B K v qs.length (qcells qs) (by decide) he (hv.le lA) (by decide) (by decide) ho (by omega) fun v' C' o => h v' C' ?_) hB
  obtain ⟨l', bs', n', w'⟩ := o.rw_
  refine ⟨bs', lA.trans l', n'.le lA, ?_⟩
  rw [List.length_append, qcells_app]
  exact w'
abbrev KsP (d : Nat) : Prop := ∀ (ss : List St) (A : Option Addr) (c : Nat) (H C : AHeap) (K : Value → AHeap → Prop) (v : Value) (qs : List Qd), ss.all (stOk d) = true → cntL ss ≤ 1048576 → qs.length ≤ 1099511627776 - 33 * cntL ss - 100 → StR H ss A 0 → Row H C 111 5 v qs.length (qcells qs) →
  (∀ v' C', Row H C' 111 5 v' (qs ++ compL ss qs.length).length (qcells (qs ++ compL ss qs.length)) → K v' C') → ACalls Try.prog w0 135 [.slice A ss.length c, v] C K
abbrev CsP (d : Nat) : Prop := ∀ (s : St) (A0 : Option Addr) (c0 : Nat) (A1 : Option Addr) (c1 : Nat) (A2 : Option Addr) (c2 : Nat) (H C : AHeap) (K : Value → AHeap → Prop) (v : Value) (qs : List Qd), stOk d s = true → s.cnt ≤ 1048576 → qs.length ≤ 1099511627776 - 33 * s.cnt - 100 →
  StV H s (stc s.kind s.var s.box s.e s.body.length s.els.length A0 c0 A1 c1 A2 c2) → Row H C 111 5 v qs.length (qcells qs) →
  (∀ v' C', Row H C' 111 5 v' (qs ++ compS s qs.length).length (qcells (qs ++ compS s qs.length)) → K v' C') → ACalls Try.prog w0 177 [stv s.kind s.var s.box s.e s.body.length s.els.length A0 c0 A1 c1 A2 c2, v] C K
theorem ksP_of (d : Nat) (ih : CsP w0 d) : KsP w0 d := by
  intro ss A c H C K v qs ho hc hq hR hr h
  have hl := cntL_len ss
  have hs := szL_le ss
  refine acalls_of_sx mix Try.func135 of135 (by simp [ir135]) ?_; rw [ir135]; (try delta qT qI qC qO qM qG)
  repeat' (first | simp -implicitDefEqProofs only [zG1,zG2,zG3,zG4,zG5,zG6,zG7,eq_self,resV,rval,X.val,binv,fillL,setR,↓reduceIte,Nat.reduceEqDiff,Nat.reduceAdd,Nat.reduceMul,Nat.reduceLeDiff,Nat.reduceLT,Nat.reduceSub,reduceCtorEq,zGq] | ((with_reducible refine rows_intro (fun _ hb => ?_)); try simp only [set_none, ne_eq] at hb) | ((with_reducible refine new_intro (fun _ hb => ?_)); try simp only [set_none, ne_eq] at hb) | (with_reducible refine draw_same ?_) | ((with_reducible refine gd_split ?_ (fun _ => ?_) (fun _ => ?_)); exact rfl) | ((with_reducible refine td_split ?_ (fun _ => ?_) (fun _ => ?_)); exact rfl) | (with_reducible refine c_split (fun _ => ?_) (fun _ => ?_)))
  refine for_rule ss.length (fun k fr C' => ∃ v', Row H C' 111 5 v' (qs ++ compL (ss.take k) qs.length).length (qcells (qs ++ compL (ss.take k) qs.length)) ∧ fr 1 = v' ∧ fr 7 = .slice A ss.length c ∧ fr 8 = .int .i64 ss.length ∧ fr 9 = .int .i64 k)
    ⟨v, by simpa [compL] using hr, (by first | rfl | (simp only [put_at, ↓reduceIte, Nat.reduceEqDiff]; first | done | rfl | assumption) | simp [put_at, *]), (by first | rfl | (simp only [put_at, ↓reduceIte, Nat.reduceEqDiff]; first | done | rfl | assumption) | simp [put_at, *]), (by first | rfl | (simp only [put_at, ↓reduceIte, Nat.reduceEqDiff]; first | done | rfl | assumption) | simp [put_at, *]), (by first | rfl | (simp only [put_at, ↓reduceIte, Nat.reduceEqDiff]; first | done | rfl | assumption) | simp [put_at, *])⟩ ?_ ?_
  · rintro k fr C1 hk ⟨v1, r1, f1, f7, f8, f9⟩ N hN
    have g0 := lt_dec hk
    have g1 := rng hk
    have g2 := up1 hk (by omega)
    obtain ⟨gA, a0, d0, a1, d1, a2, d2, gp, hx⟩ := (hR.le r1.hle).arg hk
    obtain ⟨-, -, -, -, -, -, -, -, hx0⟩ := hR.arg hk
    have hxv : StV H ss[k] (stc ss[k].kind ss[k].var ss[k].box ss[k].e ss[k].body.length ss[k].els.length a0 d0 a1 d1 a2 d2) := by
      obtain ⟨_, b0, e0, b1, e1, b2, e2, gp', hx'⟩ := hR.arg hk
      obtain ⟨g0, g1, g2, g3, g4, g5, g6, g7⟩ := gp
      obtain ⟨m0, m1, m2, m3, m4, m5, m6, m7⟩ := Pl8.le r1.hle gp'
      rw [m5] at g5; rw [m6] at g6; rw [m7] at g7
      simp only [Option.some.injEq, Value.slice.injEq, true_and] at g5 g6 g7
      obtain ⟨rfl, rfl⟩ := g5
      obtain ⟨rfl, rfl⟩ := g6
      obtain ⟨rfl, rfl⟩ := g7
      exact hx'
    have hct := cntL_at hk
    have hst := cntL_take hk
    have hle := cntL_le (ss := ss) (k + 1)
    have hs2 := szL_le (ss.take k)
    have hlen : (qs ++ compL (ss.take k) qs.length).length = qs.length + szL (ss.take k) := by rw [List.length_append, compL_len]
    have hok := List.all_eq_true.1 ho _ (List.getElem_mem hk)
    repeat' (first | simp -implicitDefEqProofs only [zG1,zG2,zG3,zG4,zG5,zG6,zG7,eq_self,resV,rval,X.val,binv,fillL,setR,↓reduceIte,Nat.reduceEqDiff,Nat.reduceAdd,Nat.reduceMul,Nat.reduceLeDiff,Nat.reduceLT,Nat.reduceSub,reduceCtorEq,zGq, f1, f7, f8, f9, g0, g1, g2, gA, gp, Nat.add_zero] | ((with_reducible refine rows_intro (fun _ hb => ?_)); try simp only [set_none, ne_eq] at hb) | ((with_reducible refine new_intro (fun _ hb => ?_)); try simp only [set_none, ne_eq] at hb) | (with_reducible refine draw_same ?_) | ((with_reducible refine gd_split ?_ (fun _ => ?_) (fun _ => ?_)); exact rfl) | ((with_reducible refine td_split ?_ (fun _ => ?_) (fun _ => ?_)); exact rfl) | (with_reducible refine c_split (fun _ => ?_) (fun _ => ?_)))
    have l2 := (AHeap.le.refl C1).fresh hb ⟨stc ss[k].kind ss[k].var ss[k].box ss[k].e ss[k].body.length ss[k].els.length a0 d0 a1 d1 a2 d2, true, 105, 8⟩
    refine ih ss[k] a0 d0 a1 d1 a2 d2 H _ _ v1 (qs ++ compL (ss.take k) qs.length) hok (by omega) (by omega) hxv (r1.le l2) (fun v3 C3 r3 => ?_)
    repeat' (first | simp -implicitDefEqProofs only [zG1,zG2,zG3,zG4,zG5,zG6,zG7,eq_self,resV,rval,X.val,binv,fillL,setR,↓reduceIte,Nat.reduceEqDiff,Nat.reduceAdd,Nat.reduceMul,Nat.reduceLeDiff,Nat.reduceLT,Nat.reduceSub,reduceCtorEq,zGq, f1, f7, f8, f9, g2] | ((with_reducible refine rows_intro (fun _ hb => ?_)); try simp only [set_none, ne_eq] at hb) | ((with_reducible refine new_intro (fun _ hb => ?_)); try simp only [set_none, ne_eq] at hb) | (with_reducible refine draw_same ?_) | ((with_reducible refine gd_split ?_ (fun _ => ?_) (fun _ => ?_)); exact rfl) | ((with_reducible refine td_split ?_ (fun _ => ?_) (fun _ => ?_)); exact rfl) | (with_reducible refine c_split (fun _ => ?_) (fun _ => ?_)))
    refine hN _ _ _ (.refl _) ⟨v3, ?_, (by first | rfl | (simp only [put_at, ↓reduceIte, Nat.reduceEqDiff]; first | done | rfl | assumption) | simp [put_at, *]), (by first | rfl | (simp only [put_at, ↓reduceIte, Nat.reduceEqDiff]; first | done | rfl | assumption) | simp [put_at, *]), (by first | rfl | (simp only [put_at, ↓reduceIte, Nat.reduceEqDiff]; first | done | rfl | assumption) | simp [put_at, *]), (by first | rfl | (simp only [put_at, ↓reduceIte, Nat.reduceEqDiff]; first | done | rfl | assumption) | simp [put_at, *])⟩
    rw [compL_take hk, ← List.append_assoc, ← hlen]
    exact r3
  · rintro fr C1 ⟨v1, r1, f1, f7, f8, f9⟩ N
    have g0 : decide ((ss.length : Int) < (ss.length : Int)) = false := by simp
    rw [List.take_length] at r1
    repeat' (first | simp -implicitDefEqProofs only [zG1,zG2,zG3,zG4,zG5,zG6,zG7,eq_self,resV,rval,X.val,binv,fillL,setR,↓reduceIte,Nat.reduceEqDiff,Nat.reduceAdd,Nat.reduceMul,Nat.reduceLeDiff,Nat.reduceLT,Nat.reduceSub,reduceCtorEq,zGq, f1, f7, f8, f9, g0] | ((with_reducible refine rows_intro (fun _ hb => ?_)); try simp only [set_none, ne_eq] at hb) | ((with_reducible refine new_intro (fun _ hb => ?_)); try simp only [set_none, ne_eq] at hb) | (with_reducible refine draw_same ?_) | ((with_reducible refine gd_split ?_ (fun _ => ?_) (fun _ => ?_)); exact rfl) | ((with_reducible refine td_split ?_ (fun _ => ?_) (fun _ => ?_)); exact rfl) | (with_reducible refine c_split (fun _ => ?_) (fun _ => ?_)))
    exact ret_same (h _ _ r1)
theorem set_at {α : Type} (a b : List α) (x y : α) : (a ++ x :: b).set a.length y = a ++ y :: b := by
  rw [List.set_append_right _ _ (Nat.le_refl _), Nat.sub_self, List.set_cons_zero]
end Go.Proofs.Ytfjhjfddgdokgaa
namespace Go.Proofs.Ytfjhjfddgdokgaa
set_option linter.all false
open Go Go.RowKit
set_option maxRecDepth 100000
variable (w0 : World)
theorem kn_eight {C : AHeap} {x : Nat} {t : TypeId} {c : Nat} {v0 v1 v2 v3 v4 v5 v6 v7 : Value} (k : Kn C x ⟨[v0, v1, v2, v3, v4, v5, v6, v7], true, t, c⟩) :
    C.cell (some ⟨x, 0, none⟩) = some v0 ∧ C.cell (some ⟨x, 1, none⟩) = some v1 ∧ C.cell (some ⟨x, 2, none⟩) = some v2 ∧ C.cell (some ⟨x, 3, none⟩) = some v3 ∧ C.cell (some ⟨x, 4, none⟩) = some v4 ∧ C.cell (some ⟨x, 5, none⟩) = some v5 ∧ C.cell (some ⟨x, 6, none⟩) = some v6 ∧ C.cell (some ⟨x, 7, none⟩) = some v7 :=
  ⟨k.cell (j := 0) rfl, k.cell (j := 1) rfl, k.cell (j := 2) rfl, k.cell (j := 3) rfl, k.cell (j := 4) rfl, k.cell (j := 5) rfl, k.cell (j := 6) rfl, k.cell (j := 7) rfl⟩
theorem Row.putq {H C : AHeap} {t : TypeId} {A : Option Addr} {n c i : Nat} {a b : List Qd} {q : Qd} {x : Int} {D : Value → AHeap → Prop} (h : Row H C t 5 (.slice A n c) n (qcells (a ++ q :: b))) (hi : i = a.length) (hn : n = (a ++ q :: b).length)
    (hD : ∀ C', Row H C' t 5 (.slice A n c) n (qcells (a ++ ⟨q.op, q.dst, q.a, q.b, x⟩ :: b)) → D undef C') : stK 1 (.pointer (adr A (i * 5 + 4))) (.int .i64 x) D C := by
  subst hi
  refine h.put (by simp) hn (fun C' r => hD C' ?_)
  have e : (a ++ q :: b)[a.length]'(by simp) = q := by simp
  rw [e, set_at] at r
  exact r
theorem Row.one {H C : AHeap} {t : TypeId} {v : Value} {bytes b c xc : Nat} {o : Bool} {t' : TypeId} {qs : List Qd} {w0 : World} {P : Program} {K : Value → AHeap → Prop} (q : Qd) (h : Row H C t 5 v qs.length (qcells qs)) (hb : C b = none) (hm : qs.length ≤ 1099511627776) (hB : bytes = 40)
    (hK : ∀ v' C', Row H C' t 5 v' (qs ++ [q]).length (qcells (qs ++ [q])) → K v' C') : appK P w0 [.int .i64 0, .int .i64 0, .int .i64 0, .int .i64 0, .int .i64 0] t bytes v (.slice (some ⟨b, 0, none⟩) 1 xc) K (C.set b ⟨q.cells, o, t', c⟩) := by
  subst hB
  refine Row.app1 (m := 1) (z := [.int .i64 0, .int .i64 0, .int .i64 0, .int .i64 0, .int .i64 0]) h hb rfl (q_oc q) (by simp only [maxLen]; omega) (by omega) (fun v' C' r => hK v' C' ?_)
  rw [List.length_append, qcells_app, qcells_one']
  exact r
set_option maxHeartbeats 2000000 in
theorem csP_of (d : Nat) (ih : ∀ d', d = d' + 1 → KsP w0 d') : CsP w0 d := by
  intro s A0 c0 A1 c1 A2 c2 H C K v qs ho hc hq hv hr h
  obtain ⟨hE, ⟨hb1, hb2⟩, hl1, hl2⟩ := hv.parts
  have he := stOk_e ho
  have hcs := s.cnt_eq
  have n0 := compE_le s.e
  obtain ⟨V1, e1, rfl, -⟩ := hr.fl
  refine acalls_of_sx mix Try.func177 of177 (by simp [ir177]) ?_; rw [ir177]; (try delta qT qI qC qO qM qG)
  repeat' (first | simp -implicitDefEqProofs only [zG1,zG2,zG3,zG4,zG5,zG6,zG7,eq_self,resV,rval,X.val,binv,fillL,setR,↓reduceIte,Nat.reduceEqDiff,Nat.reduceAdd,Nat.reduceMul,Nat.reduceLeDiff,Nat.reduceLT,Nat.reduceSub,reduceCtorEq,zGq] | ((with_reducible refine new_intro (fun _ hb => ?_))))
  rename_i x
  have hx := hb
  have lx := (AHeap.le.refl C).fresh hx ⟨[.int .i64 s.kind, .int .i64 s.var, .int .i64 s.box, .int .i64 s.e.op, .int .i64 s.e.n, .slice A0 s.e.args.length c0, .slice A1 s.body.length c1, .slice A2 s.els.length c2], true, 105, 8⟩
  obtain ⟨B, lB, lB2, rB, kB⟩ := hr.cutK lx
  have kx := kB x _ hx (Kn.same _ _ _)
  clear kB lx hb
  generalize C.set x _ = C1 at *
  have g1 := kn_eight (kx.trans lB2)
  have gB := kn_eight kx
  have hEB := hE.le lB
  have hbB := hb2.le lB
  have hlB := hl2.le lB
  by_cases hk : s.kind = 2 ∨ s.kind = 3
  · obtain ⟨d', rfl, hbk, hbd, hel⟩ := stOk_block ho hk
    have ihd := ih d' rfl
    have hn5 : (s.kind != 5) = true := by simp only [bne_iff_ne, ne_eq]; omega
    have hn6 : (s.kind != 6) = true := by simp only [bne_iff_ne, ne_eq]; omega
    repeat' (first | simp -implicitDefEqProofs only [zG1,zG2,zG3,zG4,zG5,zG6,zG7,eq_self,resV,rval,X.val,binv,fillL,setR,↓reduceIte,Nat.reduceEqDiff,Nat.reduceAdd,Nat.reduceMul,Nat.reduceLeDiff,Nat.reduceLT,Nat.reduceSub,reduceCtorEq,zGq, g1, hn5, hn6])
    refine compileExprR_ok _ s.e A0 c0 B C1 _ _ qs he hEB rB (by omega) (fun v2 C2 r2 => ?_)
    have g2 := kn_eight (kx.trans r2.hle)
    obtain ⟨V2, e2, rfl, -⟩ := r2.fl
    cases s with
    | mk k v b e body els =>
      simp only [St.kind, St.var, St.box, St.e, St.body, St.els] at *
      have hsz := szL_le body
      have hsl := szL_le els
      have len1 : (qs ++ compE e).length = qs.length + (compE e).length := by simp
      have e2' : (k == 1) = false ∧ (k == 4) = false ∧ (k == 5) = false ∧ (k == 6) = false ∧ (k == 7) = false := by
        rcases hk with rfl | rfl <;> decide
      generalize hL1 : qs ++ compE e = L1 at *
      repeat' (first | simp -implicitDefEqProofs only [zG1,zG2,zG3,zG4,zG5,zG6,zG7,eq_self,resV,rval,X.val,binv,fillL,setR,↓reduceIte,Nat.reduceEqDiff,Nat.reduceAdd,Nat.reduceMul,Nat.reduceLeDiff,Nat.reduceLT,Nat.reduceSub,reduceCtorEq,zGq, g2, e2'])
      refine draw_at B r2.hle ?_
      repeat' (first | simp -implicitDefEqProofs only [zG1,zG2,zG3,zG4,zG5,zG6,zG7,eq_self,resV,rval,X.val,binv,fillL,setR,↓reduceIte,Nat.reduceEqDiff,Nat.reduceAdd,Nat.reduceMul,Nat.reduceLeDiff,Nat.reduceLT,Nat.reduceSub,reduceCtorEq,zGq, gB])
      refine rows_intro (fun y hy => ?_)
      have ly := r2.hle.trans ((AHeap.le.refl C2).fresh hy ⟨(⟨5, 0, 4, 0, 0⟩ : Qd).cells, true, 111, 5⟩)
      repeat' (first | simp -implicitDefEqProofs only [zG1,zG2,zG3,zG4,zG5,zG6,zG7,eq_self,resV,rval,X.val,binv,fillL,setR,↓reduceIte,Nat.reduceEqDiff,Nat.reduceAdd,Nat.reduceMul,Nat.reduceLeDiff,Nat.reduceLT,Nat.reduceSub,reduceCtorEq,zGq])
      refine ⟨ly, ?_⟩
      refine r2.one ⟨5, 0, 4, 0, 0⟩ hy (by omega) rfl (fun v3 C3 r3 => ?_)
      have l3 := r3.hle
      have len2 : (L1 ++ [(⟨5, 0, 4, 0, 0⟩ : Qd)]).length = qs.length + (compE e).length + 1 := by simp; omega
      repeat' (first | simp -implicitDefEqProofs only [zG1,zG2,zG3,zG4,zG5,zG6,zG7,eq_self,resV,rval,X.val,binv,fillL,setR,↓reduceIte,Nat.reduceEqDiff,Nat.reduceAdd,Nat.reduceMul,Nat.reduceLeDiff,Nat.reduceLT,Nat.reduceSub,reduceCtorEq,zGq, l3])
      refine ihd body A1 c1 B C3 _ v3 _ hbd (by omega) (by omega) hbB r3 (fun v4 C4 r4 => ?_)
      rw [len2] at r4
      have l4 := r4.hle
      have g4 := kn_eight (kx.trans l4)
      obtain ⟨V4, e4, rfl, -⟩ := r4.fl
      have len3 : (L1 ++ [(⟨5, 0, 4, 0, 0⟩ : Qd)] ++ compL body (qs.length + (compE e).length + 1)).length = qs.length + (compE e).length + 1 + szL body := by rw [List.length_append, len2, compL_len]
      have ea : L1 ++ [(⟨5, 0, 4, 0, 0⟩ : Qd)] ++ compL body (qs.length + (compE e).length + 1) = L1 ++ ⟨5, 0, 4, 0, 0⟩ :: compL body (qs.length + (compE e).length + 1) := by simp
      rw [len3, ea] at r4
      rw [len3]
      rcases hk with rfl | rfl
      · cases hem : els.isEmpty with
        | true =>
          have g5 : decide (((els.length : Nat) : Int) > 0) = false := by rw [emp, hem]; rfl
          have gi := rng (k := L1.length) (n := qs.length + (compE e).length + 1 + szL body) (by omega)
          have hi := (r4.fl'.1).is (i := 0) (by rw [qcells_len]; simp only [List.length_append, List.length_cons]; omega)
          repeat' (first | simp -implicitDefEqProofs only [zG1,zG2,zG3,zG4,zG5,zG6,zG7,eq_self,resV,rval,X.val,binv,fillL,setR,↓reduceIte,Nat.reduceEqDiff,Nat.reduceAdd,Nat.reduceMul,Nat.reduceLeDiff,Nat.reduceLT,Nat.reduceSub,reduceCtorEq,zGq, l4, g4, g5, gi, hi, Int.reduceBEq])
          refine r4.putq rfl (by simp [compL_len]; omega) (fun C5 r5 => ?_)
          have g6 := kn_eight (kx.trans r5.hle)
          repeat' (first | simp -implicitDefEqProofs only [zG1,zG2,zG3,zG4,zG5,zG6,zG7,eq_self,resV,rval,X.val,binv,fillL,setR,↓reduceIte,Nat.reduceEqDiff,Nat.reduceAdd,Nat.reduceMul,Nat.reduceLeDiff,Nat.reduceLT,Nat.reduceSub,reduceCtorEq,zGq, g6, g5])
          refine ret_same (h _ _ ?_)
          have e9 : qs ++ compS (.mk 2 v b e body els) qs.length = L1 ++ ⟨5, 0, 4, 0, ((qs.length + (compE e).length + 1 + szL body : Nat) : Int)⟩ :: compL body (qs.length + (compE e).length + 1) := by
            rw [← hL1]; simp [compS, hem]
          have e10 : (qs ++ compS (.mk 2 v b e body els) qs.length).length = qs.length + (compE e).length + 1 + szL body := by rw [e9]; simp [compL_len]; omega
          rw [e10, e9]
          exact r5.base lB
        | false =>
          have g5 : decide (((els.length : Nat) : Int) > 0) = true := by rw [emp, hem]; rfl
          repeat' (first | simp -implicitDefEqProofs only [zG1,zG2,zG3,zG4,zG5,zG6,zG7,eq_self,resV,rval,X.val,binv,fillL,setR,↓reduceIte,Nat.reduceEqDiff,Nat.reduceAdd,Nat.reduceMul,Nat.reduceLeDiff,Nat.reduceLT,Nat.reduceSub,reduceCtorEq,zGq, l4, g4, g5, Int.reduceBEq])
          refine rows_intro (fun y2 hy2 => ?_)
          repeat' (first | simp -implicitDefEqProofs only [zG1,zG2,zG3,zG4,zG5,zG6,zG7,eq_self,resV,rval,X.val,binv,fillL,setR,↓reduceIte,Nat.reduceEqDiff,Nat.reduceAdd,Nat.reduceMul,Nat.reduceLeDiff,Nat.reduceLT,Nat.reduceSub,reduceCtorEq,zGq])
          have r4' : Row B C4 111 5 (.slice V4 (qs.length + (compE e).length + 1 + szL body) e4) (L1 ++ ⟨5, 0, 4, 0, 0⟩ :: compL body (qs.length + (compE e).length + 1)).length (qcells (L1 ++ ⟨5, 0, 4, 0, 0⟩ :: compL body (qs.length + (compE e).length + 1))) := by rw [← ea, len3, ea]; exact r4
          refine r4'.one ⟨4, 0, 0, 0, 0⟩ hy2 (by rw [← ea, len3]; omega) rfl (fun v5 C5 r5 => ?_)
          obtain ⟨V5, e5, rfl, -⟩ := r5.fl
          have g7 := kn_eight (kx.trans r5.hle)
          have len5 : (L1 ++ ⟨5, 0, 4, 0, 0⟩ :: compL body (qs.length + (compE e).length + 1) ++ [(⟨4, 0, 0, 0, 0⟩ : Qd)]).length = qs.length + (compE e).length + 1 + szL body + 1 := by rw [List.length_append, ← ea, len3]; rfl
          have eb : L1 ++ ⟨5, 0, 4, 0, 0⟩ :: compL body (qs.length + (compE e).length + 1) ++ [(⟨4, 0, 0, 0, 0⟩ : Qd)] = L1 ++ ⟨5, 0, 4, 0, 0⟩ :: (compL body (qs.length + (compE e).length + 1) ++ [(⟨4, 0, 0, 0, 0⟩ : Qd)]) := by simp
          rw [len5, eb] at r5
          rw [len5]
          have gi := rng (k := L1.length) (n := qs.length + (compE e).length + 1 + szL body + 1) (by omega)
          have hi := (r5.fl'.1).is (i := 0) (by rw [qcells_len]; simp only [List.length_append, List.length_cons]; omega)
          repeat' (first | simp -implicitDefEqProofs only [zG1,zG2,zG3,zG4,zG5,zG6,zG7,eq_self,resV,rval,X.val,binv,fillL,setR,↓reduceIte,Nat.reduceEqDiff,Nat.reduceAdd,Nat.reduceMul,Nat.reduceLeDiff,Nat.reduceLT,Nat.reduceSub,reduceCtorEq,zGq, g7, g5, gi, hi])
          refine r5.putq rfl (by simp [compL_len]; omega) (fun C6 r6 => ?_)
          have g8 := kn_eight (kx.trans r6.hle)
          repeat' (first | simp -implicitDefEqProofs only [zG1,zG2,zG3,zG4,zG5,zG6,zG7,eq_self,resV,rval,X.val,binv,fillL,setR,↓reduceIte,Nat.reduceEqDiff,Nat.reduceAdd,Nat.reduceMul,Nat.reduceLeDiff,Nat.reduceLT,Nat.reduceSub,reduceCtorEq,zGq, g8, g5])
          have len6 : (L1 ++ ⟨5, 0, 4, 0, ((qs.length + (compE e).length + 1 + szL body + 1 : Nat) : Int)⟩ :: (compL body (qs.length + (compE e).length + 1) ++ [(⟨4, 0, 0, 0, 0⟩ : Qd)])).length = qs.length + (compE e).length + 1 + szL body + 1 := by simp [compL_len]; omega
          refine ihd els A2 c2 B C6 _ _ (L1 ++ ⟨5, 0, 4, 0, ((qs.length + (compE e).length + 1 + szL body + 1 : Nat) : Int)⟩ :: (compL body (qs.length + (compE e).length + 1) ++ [(⟨4, 0, 0, 0, 0⟩ : Qd)])) hel (by omega) (by omega) hlB (by rw [len6]; exact r6) (fun v7 C7 r7 => ?_)
          rw [len6] at r7
          have ec : (L1 ++ ⟨5, 0, 4, 0, ((qs.length + (compE e).length + 1 + szL body + 1 : Nat) : Int)⟩ :: (compL body (qs.length + (compE e).length + 1) ++ [(⟨4, 0, 0, 0, 0⟩ : Qd)])) ++ compL els (qs.length + (compE e).length + 1 + szL body + 1) =
              (L1 ++ ⟨5, 0, 4, 0, ((qs.length + (compE e).length + 1 + szL body + 1 : Nat) : Int)⟩ :: compL body (qs.length + (compE e).length + 1)) ++ ⟨4, 0, 0, 0, 0⟩ :: compL els (qs.length + (compE e).length + 1 + szL body + 1) := by simp
          have len7 : ((L1 ++ ⟨5, 0, 4, 0, ((qs.length + (compE e).length + 1 + szL body + 1 : Nat) : Int)⟩ :: (compL body (qs.length + (compE e).length + 1) ++ [(⟨4, 0, 0, 0, 0⟩ : Qd)])) ++ compL els (qs.length + (compE e).length + 1 + szL body + 1)).length = qs.length + (compE e).length + 1 + szL body + 1 + szL els := by rw [List.length_append, len6, compL_len]
          obtain ⟨V7, e7, rfl, -⟩ := r7.fl
          rw [len7, ec] at r7
          rw [len7]
          have gj := rng (k := qs.length + (compE e).length + 1 + szL body) (n := qs.length + (compE e).length + 1 + szL body + 1 + szL els) (by omega)
          have hi7 := (r7.fl'.1).is (i := 0) (by rw [qcells_len]; simp only [List.length_append, List.length_cons]; omega)
          repeat' (first | simp -implicitDefEqProofs only [zG1,zG2,zG3,zG4,zG5,zG6,zG7,eq_self,resV,rval,X.val,binv,fillL,setR,↓reduceIte,Nat.reduceEqDiff,Nat.reduceAdd,Nat.reduceMul,Nat.reduceLeDiff,Nat.reduceLT,Nat.reduceSub,reduceCtorEq,zGq, gj, hi7])
          refine r7.putq (by simp [compL_len]; omega) (by rw [← ec, len7]) (fun C8 r8 => ?_)
          repeat' (first | simp -implicitDefEqProofs only [zG1,zG2,zG3,zG4,zG5,zG6,zG7,eq_self,resV,rval,X.val,binv,fillL,setR,↓reduceIte,Nat.reduceEqDiff,Nat.reduceAdd,Nat.reduceMul,Nat.reduceLeDiff,Nat.reduceLT,Nat.reduceSub,reduceCtorEq,zGq])
          refine ret_same (h _ _ ?_)
          have e9 : qs ++ compS (.mk 2 v b e body els) qs.length = (L1 ++ ⟨5, 0, 4, 0, ((qs.length + (compE e).length + 1 + szL body + 1 : Nat) : Int)⟩ :: compL body (qs.length + (compE e).length + 1)) ++ ⟨4, 0, 0, 0, ((qs.length + (compE e).length + 1 + szL body + 1 + szL els : Nat) : Int)⟩ :: compL els (qs.length + (compE e).length + 1 + szL body + 1) := by
            rw [← hL1]; simp [compS, hem]
          have e10 : (qs ++ compS (.mk 2 v b e body els) qs.length).length = qs.length + (compE e).length + 1 + szL body + 1 + szL els := by rw [e9]; simp [compL_len]; omega
          rw [e10, e9]
          exact r8.base lB
      · have hem : els.isEmpty = true := by
          simp only [stBlock, Bool.and_eq_true, St.kind, St.els] at hbk
          simpa using hbk.2
        have g5 : decide (((els.length : Nat) : Int) > 0) = false := by rw [emp, hem]; rfl
        repeat' (first | simp -implicitDefEqProofs only [zG1,zG2,zG3,zG4,zG5,zG6,zG7,eq_self,resV,rval,X.val,binv,fillL,setR,↓reduceIte,Nat.reduceEqDiff,Nat.reduceAdd,Nat.reduceMul,Nat.reduceLeDiff,Nat.reduceLT,Nat.reduceSub,reduceCtorEq,zGq, l4, g4, g5, Int.reduceBEq])
        refine rows_intro (fun y2 hy2 => ?_)
        repeat' (first | simp -implicitDefEqProofs only [zG1,zG2,zG3,zG4,zG5,zG6,zG7,eq_self,resV,rval,X.val,binv,fillL,setR,↓reduceIte,Nat.reduceEqDiff,Nat.reduceAdd,Nat.reduceMul,Nat.reduceLeDiff,Nat.reduceLT,Nat.reduceSub,reduceCtorEq,zGq])
        have r4' : Row B C4 111 5 (.slice V4 (qs.length + (compE e).length + 1 + szL body) e4) (L1 ++ ⟨5, 0, 4, 0, 0⟩ :: compL body (qs.length + (compE e).length + 1)).length (qcells (L1 ++ ⟨5, 0, 4, 0, 0⟩ :: compL body (qs.length + (compE e).length + 1))) := by rw [← ea, len3, ea]; exact r4
        refine r4'.one ⟨4, 0, 0, 0, (qs.length : Int)⟩ hy2 (by rw [← ea, len3]; omega) rfl (fun v5 C5 r5 => ?_)
        obtain ⟨V5, e5, rfl, -⟩ := r5.fl
        have g7 := kn_eight (kx.trans r5.hle)
        have len5 : (L1 ++ ⟨5, 0, 4, 0, 0⟩ :: compL body (qs.length + (compE e).length + 1) ++ [(⟨4, 0, 0, 0, (qs.length : Int)⟩ : Qd)]).length = qs.length + (compE e).length + 1 + szL body + 1 := by rw [List.length_append, ← ea, len3]; rfl
        have eb : L1 ++ ⟨5, 0, 4, 0, 0⟩ :: compL body (qs.length + (compE e).length + 1) ++ [(⟨4, 0, 0, 0, (qs.length : Int)⟩ : Qd)] = L1 ++ ⟨5, 0, 4, 0, 0⟩ :: (compL body (qs.length + (compE e).length + 1) ++ [(⟨4, 0, 0, 0, (qs.length : Int)⟩ : Qd)]) := by simp
        rw [len5, eb] at r5
        rw [len5]
        have gi := rng (k := L1.length) (n := qs.length + (compE e).length + 1 + szL body + 1) (by omega)
        have hi := (r5.fl'.1).is (i := 0) (by rw [qcells_len]; simp only [List.length_append, List.length_cons]; omega)
        repeat' (first | simp -implicitDefEqProofs only [zG1,zG2,zG3,zG4,zG5,zG6,zG7,eq_self,resV,rval,X.val,binv,fillL,setR,↓reduceIte,Nat.reduceEqDiff,Nat.reduceAdd,Nat.reduceMul,Nat.reduceLeDiff,Nat.reduceLT,Nat.reduceSub,reduceCtorEq,zGq, g7, g5, gi, hi])
        refine r5.putq rfl (by simp [compL_len]; omega) (fun C6 r6 => ?_)
        have g8 := kn_eight (kx.trans r6.hle)
        repeat' (first | simp -implicitDefEqProofs only [zG1,zG2,zG3,zG4,zG5,zG6,zG7,eq_self,resV,rval,X.val,binv,fillL,setR,↓reduceIte,Nat.reduceEqDiff,Nat.reduceAdd,Nat.reduceMul,Nat.reduceLeDiff,Nat.reduceLT,Nat.reduceSub,reduceCtorEq,zGq, g8, g5])
        refine ret_same (h _ _ ?_)
        have e9 : qs ++ compS (.mk 3 v b e body els) qs.length = L1 ++ ⟨5, 0, 4, 0, ((qs.length + (compE e).length + 1 + szL body + 1 : Nat) : Int)⟩ :: (compL body (qs.length + (compE e).length + 1) ++ [(⟨4, 0, 0, 0, (qs.length : Int)⟩ : Qd)]) := by
          rw [← hL1]; simp [compS]
        have e10 : (qs ++ compS (.mk 3 v b e body els) qs.length).length = qs.length + (compE e).length + 1 + szL body + 1 := by rw [e9]; simp [compL_len]; omega
        rw [e10, e9]
        exact r6.base lB
  · have hs := stOk_simple ho (fun e => hk (.inl e)) (fun e => hk (.inr e))
    have hkk := simple_kind hs
    obtain ⟨q, e0, -, -, -, -, eq⟩ := simple_q hs qs.length
    rw [e0] at h
    clear hv hE hb2 hl2 ho hs e0 hbB hlB
    generalize s.kind = k, s.var = v, s.box = b at *
    have fin : ∀ (L : List Qd) (v2 : Value) (C2 : AHeap) (y cc xc : Nat) (D : Value → AHeap → Prop), Row B C2 111 5 v2 L.length (qcells L) → C2 y = none → L.length ≤ 1099511627776 → (∀ v3 C3, Row B C3 111 5 v3 (L ++ [q]).length (qcells (L ++ [q])) → D v3 C3) →
        appK Try.prog w0 [.int .i64 0, .int .i64 0, .int .i64 0, .int .i64 0, .int .i64 0] 111 40 v2 (.slice (some ⟨y, 0, none⟩) 1 xc) D (C2.set y ⟨q.cells, true, 111, cc⟩) := fun L v2 C2 y cc xc D r hy hL hD => r.one q hy hL rfl hD
    rcases hkk with rfl | rfl | rfl | rfl | rfl
    · simp at eq
      subst eq
      repeat' (first | simp -implicitDefEqProofs only [zG1,zG2,zG3,zG4,zG5,zG6,zG7,eq_self,resV,rval,X.val,binv,fillL,setR,↓reduceIte,Nat.reduceEqDiff,Nat.reduceAdd,Nat.reduceMul,Nat.reduceLeDiff,Nat.reduceLT,Nat.reduceSub,reduceCtorEq,zGq, g1, Int.reduceBNe])
      refine compileExprR_ok _ s.e A0 c0 B C1 _ _ qs he hEB rB (by omega) (fun v2 C2 r2 => ?_)
      have g2 := kn_eight (kx.trans r2.hle)
      repeat' (first | simp -implicitDefEqProofs only [zG1,zG2,zG3,zG4,zG5,zG6,zG7,eq_self,resV,rval,X.val,binv,fillL,setR,↓reduceIte,Nat.reduceEqDiff,Nat.reduceAdd,Nat.reduceMul,Nat.reduceLeDiff,Nat.reduceLT,Nat.reduceSub,reduceCtorEq,zGq, g2, Int.reduceBEq])
      refine rows_intro (fun y hy => ?_)
      repeat' (first | simp -implicitDefEqProofs only [zG1,zG2,zG3,zG4,zG5,zG6,zG7,eq_self,resV,rval,X.val,binv,fillL,setR,↓reduceIte,Nat.reduceEqDiff,Nat.reduceAdd,Nat.reduceMul,Nat.reduceLeDiff,Nat.reduceLT,Nat.reduceSub,reduceCtorEq,zGq])
      refine r2.one ⟨2, v, 4, 0, 0⟩ hy (by rw [List.length_append]; omega) rfl (fun v3 C3 r3 => ?_)
      repeat' (first | simp -implicitDefEqProofs only [zG1,zG2,zG3,zG4,zG5,zG6,zG7,eq_self,resV,rval,X.val,binv,fillL,setR,↓reduceIte,Nat.reduceEqDiff,Nat.reduceAdd,Nat.reduceMul,Nat.reduceLeDiff,Nat.reduceLT,Nat.reduceSub,reduceCtorEq,zGq])
      exact ret_same (h _ _ (by simpa only [List.append_assoc, show ¬ ((1 : Int) = 5 ∨ (1 : Int) = 6) by decide, if_false] using r3.base lB))
    · simp at eq
      subst eq
      repeat' (first | simp -implicitDefEqProofs only [zG1,zG2,zG3,zG4,zG5,zG6,zG7,eq_self,resV,rval,X.val,binv,fillL,setR,↓reduceIte,Nat.reduceEqDiff,Nat.reduceAdd,Nat.reduceMul,Nat.reduceLeDiff,Nat.reduceLT,Nat.reduceSub,reduceCtorEq,zGq, g1, Int.reduceBNe])
      refine compileExprR_ok _ s.e A0 c0 B C1 _ _ qs he hEB rB (by omega) (fun v2 C2 r2 => ?_)
      have g2 := kn_eight (kx.trans r2.hle)
      repeat' (first | simp -implicitDefEqProofs only [zG1,zG2,zG3,zG4,zG5,zG6,zG7,eq_self,resV,rval,X.val,binv,fillL,setR,↓reduceIte,Nat.reduceEqDiff,Nat.reduceAdd,Nat.reduceMul,Nat.reduceLeDiff,Nat.reduceLT,Nat.reduceSub,reduceCtorEq,zGq, g2, Int.reduceBEq])
      refine rows_intro (fun y hy => ?_)
      repeat' (first | simp -implicitDefEqProofs only [zG1,zG2,zG3,zG4,zG5,zG6,zG7,eq_self,resV,rval,X.val,binv,fillL,setR,↓reduceIte,Nat.reduceEqDiff,Nat.reduceAdd,Nat.reduceMul,Nat.reduceLeDiff,Nat.reduceLT,Nat.reduceSub,reduceCtorEq,zGq])
      refine r2.one ⟨6, 0, 4, 0, b⟩ hy (by rw [List.length_append]; omega) rfl (fun v3 C3 r3 => ?_)
      repeat' (first | simp -implicitDefEqProofs only [zG1,zG2,zG3,zG4,zG5,zG6,zG7,eq_self,resV,rval,X.val,binv,fillL,setR,↓reduceIte,Nat.reduceEqDiff,Nat.reduceAdd,Nat.reduceMul,Nat.reduceLeDiff,Nat.reduceLT,Nat.reduceSub,reduceCtorEq,zGq])
      exact ret_same (h _ _ (by simpa only [List.append_assoc, show ¬ ((4 : Int) = 5 ∨ (4 : Int) = 6) by decide, if_false] using r3.base lB))
    · simp at eq
      subst eq
      repeat' (first | simp -implicitDefEqProofs only [zG1,zG2,zG3,zG4,zG5,zG6,zG7,eq_self,resV,rval,X.val,binv,fillL,setR,↓reduceIte,Nat.reduceEqDiff,Nat.reduceAdd,Nat.reduceMul,Nat.reduceLeDiff,Nat.reduceLT,Nat.reduceSub,reduceCtorEq,zGq, g1, Int.reduceBNe, Int.reduceBEq])
      refine rows_intro (fun y hy => ?_)
      repeat' (first | simp -implicitDefEqProofs only [zG1,zG2,zG3,zG4,zG5,zG6,zG7,eq_self,resV,rval,X.val,binv,fillL,setR,↓reduceIte,Nat.reduceEqDiff,Nat.reduceAdd,Nat.reduceMul,Nat.reduceLeDiff,Nat.reduceLT,Nat.reduceSub,reduceCtorEq,zGq])
      refine rB.one ⟨7, v, 0, 0, b⟩ hy (by omega) rfl (fun v3 C3 r3 => ?_)
      repeat' (first | simp -implicitDefEqProofs only [zG1,zG2,zG3,zG4,zG5,zG6,zG7,eq_self,resV,rval,X.val,binv,fillL,setR,↓reduceIte,Nat.reduceEqDiff,Nat.reduceAdd,Nat.reduceMul,Nat.reduceLeDiff,Nat.reduceLT,Nat.reduceSub,reduceCtorEq,zGq])
      exact ret_same (h _ _ (by rw [if_pos (show (5 : Int) = 5 ∨ (5 : Int) = 6 by decide)]; exact r3.base lB))
    · simp at eq
      subst eq
      repeat' (first | simp -implicitDefEqProofs only [zG1,zG2,zG3,zG4,zG5,zG6,zG7,eq_self,resV,rval,X.val,binv,fillL,setR,↓reduceIte,Nat.reduceEqDiff,Nat.reduceAdd,Nat.reduceMul,Nat.reduceLeDiff,Nat.reduceLT,Nat.reduceSub,reduceCtorEq,zGq, g1, Int.reduceBNe, Int.reduceBEq])
      refine rows_intro (fun y hy => ?_)
      repeat' (first | simp -implicitDefEqProofs only [zG1,zG2,zG3,zG4,zG5,zG6,zG7,eq_self,resV,rval,X.val,binv,fillL,setR,↓reduceIte,Nat.reduceEqDiff,Nat.reduceAdd,Nat.reduceMul,Nat.reduceLeDiff,Nat.reduceLT,Nat.reduceSub,reduceCtorEq,zGq])
      refine rB.one ⟨8, 0, 0, 0, 0⟩ hy (by omega) rfl (fun v3 C3 r3 => ?_)
      repeat' (first | simp -implicitDefEqProofs only [zG1,zG2,zG3,zG4,zG5,zG6,zG7,eq_self,resV,rval,X.val,binv,fillL,setR,↓reduceIte,Nat.reduceEqDiff,Nat.reduceAdd,Nat.reduceMul,Nat.reduceLeDiff,Nat.reduceLT,Nat.reduceSub,reduceCtorEq,zGq])
      exact ret_same (h _ _ (by rw [if_pos (show (6 : Int) = 5 ∨ (6 : Int) = 6 by decide)]; exact r3.base lB))
    · simp at eq
      subst eq
      repeat' (first | simp -implicitDefEqProofs only [zG1,zG2,zG3,zG4,zG5,zG6,zG7,eq_self,resV,rval,X.val,binv,fillL,setR,↓reduceIte,Nat.reduceEqDiff,Nat.reduceAdd,Nat.reduceMul,Nat.reduceLeDiff,Nat.reduceLT,Nat.reduceSub,reduceCtorEq,zGq, g1, Int.reduceBNe])
      refine compileExprR_ok _ s.e A0 c0 B C1 _ _ qs he hEB rB (by omega) (fun v2 C2 r2 => ?_)
      have g2 := kn_eight (kx.trans r2.hle)
      repeat' (first | simp -implicitDefEqProofs only [zG1,zG2,zG3,zG4,zG5,zG6,zG7,eq_self,resV,rval,X.val,binv,fillL,setR,↓reduceIte,Nat.reduceEqDiff,Nat.reduceAdd,Nat.reduceMul,Nat.reduceLeDiff,Nat.reduceLT,Nat.reduceSub,reduceCtorEq,zGq, g2, Int.reduceBEq])
      refine rows_intro (fun y hy => ?_)
      repeat' (first | simp -implicitDefEqProofs only [zG1,zG2,zG3,zG4,zG5,zG6,zG7,eq_self,resV,rval,X.val,binv,fillL,setR,↓reduceIte,Nat.reduceEqDiff,Nat.reduceAdd,Nat.reduceMul,Nat.reduceLeDiff,Nat.reduceLT,Nat.reduceSub,reduceCtorEq,zGq])
      refine r2.one ⟨9, 0, 4, 0, 0⟩ hy (by rw [List.length_append]; omega) rfl (fun v3 C3 r3 => ?_)
      repeat' (first | simp -implicitDefEqProofs only [zG1,zG2,zG3,zG4,zG5,zG6,zG7,eq_self,resV,rval,X.val,binv,fillL,setR,↓reduceIte,Nat.reduceEqDiff,Nat.reduceAdd,Nat.reduceMul,Nat.reduceLeDiff,Nat.reduceLT,Nat.reduceSub,reduceCtorEq,zGq])
      exact ret_same (h _ _ (by simpa only [List.append_assoc, show ¬ ((7 : Int) = 5 ∨ (7 : Int) = 6) by decide, if_false] using r3.base lB))
theorem ksP : ∀ d, KsP w0 d
  | 0 => ksP_of w0 0 (csP_of w0 0 fun d' h => by omega)
  | d + 1 => ksP_of w0 (d + 1) (csP_of w0 (d + 1) fun d' h => by
    obtain rfl : d' = d := (by omega)
    exact ksP d')
/-- compileTask of valid statements. -/
theorem compileTaskI_ok (ss : List St) (A : Option Addr) (c : Nat) (H : AHeap) (K : Value → AHeap → Prop) (ho : stsOk ss = true) (hR : StR H ss A 0)
    (h : ∀ v C, Row H C 111 5 v (compTask ss).length (qcells (compTask ss)) → K v C) : ACalls Try.prog w0 70 [.slice A ss.length c] H K := by
  simp only [stsOk, Bool.and_eq_true, decide_eq_true_eq] at ho
  have hs := szL_le ss
  refine acalls_of_sx mix Try.func70 of70 (by simp [ir70]) ?_; rw [ir70]; (try delta qT qI qC qO qM qG)
  repeat' (first | simp -implicitDefEqProofs only [zG1,zG2,zG3,zG4,zG5,zG6,zG7,eq_self,resV,rval,X.val,binv,fillL,setR,↓reduceIte,Nat.reduceEqDiff,Nat.reduceAdd,Nat.reduceMul,Nat.reduceLeDiff,Nat.reduceLT,Nat.reduceSub,reduceCtorEq,zGq] | ((with_reducible refine rows_intro (fun _ hb => ?_)); try simp only [set_none, ne_eq] at hb) | ((with_reducible refine new_intro (fun _ hb => ?_)); try simp only [set_none, ne_eq] at hb) | (with_reducible refine draw_same ?_) | ((with_reducible refine gd_split ?_ (fun _ => ?_) (fun _ => ?_)); exact rfl) | ((with_reducible refine td_split ?_ (fun _ => ?_) (fun _ => ?_)); exact rfl) | (with_reducible refine c_split (fun _ => ?_) (fun _ => ?_)))
  refine ksP w0 3 ss A c H H _ _ [] ho.1 (by omega) (by simp) hR (Row.nil_ _ _ _) (fun v1 C1 r1 => ?_)
  repeat' (first | simp -implicitDefEqProofs only [zG1,zG2,zG3,zG4,zG5,zG6,zG7,eq_self,resV,rval,X.val,binv,fillL,setR,↓reduceIte,Nat.reduceEqDiff,Nat.reduceAdd,Nat.reduceMul,Nat.reduceLeDiff,Nat.reduceLT,Nat.reduceSub,reduceCtorEq,zGq] | ((with_reducible refine rows_intro (fun _ hb => ?_)); try simp only [set_none, ne_eq] at hb) | ((with_reducible refine new_intro (fun _ hb => ?_)); try simp only [set_none, ne_eq] at hb) | (with_reducible refine draw_same ?_) | ((with_reducible refine gd_split ?_ (fun _ => ?_) (fun _ => ?_)); exact rfl) | ((with_reducible refine td_split ?_ (fun _ => ?_) (fun _ => ?_)); exact rfl) | (with_reducible refine c_split (fun _ => ?_) (fun _ => ?_)))
  refine r1.one ⟨10, 0, 0, 0, 0⟩ hb (by rw [List.nil_append, compL_len]; omega) rfl (fun v2 C2 r2 => ?_)
  repeat' (first | simp -implicitDefEqProofs only [zG1,zG2,zG3,zG4,zG5,zG6,zG7,eq_self,resV,rval,X.val,binv,fillL,setR,↓reduceIte,Nat.reduceEqDiff,Nat.reduceAdd,Nat.reduceMul,Nat.reduceLeDiff,Nat.reduceLT,Nat.reduceSub,reduceCtorEq,zGq] | ((with_reducible refine rows_intro (fun _ hb => ?_)); try simp only [set_none, ne_eq] at hb) | ((with_reducible refine new_intro (fun _ hb => ?_)); try simp only [set_none, ne_eq] at hb) | (with_reducible refine draw_same ?_) | ((with_reducible refine gd_split ?_ (fun _ => ?_) (fun _ => ?_)); exact rfl) | ((with_reducible refine td_split ?_ (fun _ => ?_) (fun _ => ?_)); exact rfl) | (with_reducible refine c_split (fun _ => ?_) (fun _ => ?_)))
  exact ret_same (h _ _ r2)
def compSize (ss : List St) : Int := if stsOk ss then ((szL ss + 1 : Nat) : Int) else -1
theorem compileSize_ok (ss : List St) (A : Option Addr) (c : Nat) (H : AHeap) (K : Value → AHeap → Prop) (hc : cntL ss ≤ 1048576) (hR : StR H ss A 0) (h : ∀ C, AHeap.le H C → K (.int .i64 (compSize ss)) C) :
    ACalls Try.prog w0 15 [.slice A ss.length c] H K := by
  cases ho : stsOk ss with
  | false =>
    simp only [compSize, ho] at h
    refine acalls_of_sx mix Try.func15 of15 (by simp [ir15]) ?_; rw [ir15]; (try delta qT qI qC qO qM qG)
    repeat' (first | simp -implicitDefEqProofs only [zG1,zG2,zG3,zG4,zG5,zG6,zG7,eq_self,resV,rval,X.val,binv,fillL,setR,↓reduceIte,Nat.reduceEqDiff,Nat.reduceAdd,Nat.reduceMul,Nat.reduceLeDiff,Nat.reduceLT,Nat.reduceSub,reduceCtorEq,zGq, ho] | ((with_reducible refine rows_intro (fun _ hb => ?_)); try simp only [set_none, ne_eq] at hb) | ((with_reducible refine new_intro (fun _ hb => ?_)); try simp only [set_none, ne_eq] at hb) | (with_reducible refine draw_same ?_) | ((with_reducible refine gd_split ?_ (fun _ => ?_) (fun _ => ?_)); exact rfl) | ((with_reducible refine td_split ?_ (fun _ => ?_) (fun _ => ?_)); exact rfl) | (with_reducible refine c_split (fun _ => ?_) (fun _ => ?_)) | (with_reducible refine stmtsValid_ok _ ss A c _ _ hc hR ?_))
    exact ret_same (h _ (.refl _))
  | true =>
    simp only [compSize, ho, if_true] at h
    have e := compTask_len ss
    refine acalls_of_sx mix Try.func15 of15 (by simp [ir15]) ?_; rw [ir15]; (try delta qT qI qC qO qM qG)
    repeat' (first | simp -implicitDefEqProofs only [zG1,zG2,zG3,zG4,zG5,zG6,zG7,eq_self,resV,rval,X.val,binv,fillL,setR,↓reduceIte,Nat.reduceEqDiff,Nat.reduceAdd,Nat.reduceMul,Nat.reduceLeDiff,Nat.reduceLT,Nat.reduceSub,reduceCtorEq,zGq, ho] | ((with_reducible refine rows_intro (fun _ hb => ?_)); try simp only [set_none, ne_eq] at hb) | ((with_reducible refine new_intro (fun _ hb => ?_)); try simp only [set_none, ne_eq] at hb) | (with_reducible refine draw_same ?_) | ((with_reducible refine gd_split ?_ (fun _ => ?_) (fun _ => ?_)); exact rfl) | ((with_reducible refine td_split ?_ (fun _ => ?_) (fun _ => ?_)); exact rfl) | (with_reducible refine c_split (fun _ => ?_) (fun _ => ?_)) | (with_reducible refine stmtsValid_ok _ ss A c _ _ hc hR ?_))
    refine compileTaskI_ok _ ss A c _ _ ho hR (fun v1 C1 r1 => ?_)
    obtain ⟨A1, c1, rfl, -⟩ := r1.fl
    repeat' (first | simp -implicitDefEqProofs only [zG1,zG2,zG3,zG4,zG5,zG6,zG7,eq_self,resV,rval,X.val,binv,fillL,setR,↓reduceIte,Nat.reduceEqDiff,Nat.reduceAdd,Nat.reduceMul,Nat.reduceLeDiff,Nat.reduceLT,Nat.reduceSub,reduceCtorEq,zGq, e] | ((with_reducible refine rows_intro (fun _ hb => ?_)); try simp only [set_none, ne_eq] at hb) | ((with_reducible refine new_intro (fun _ hb => ?_)); try simp only [set_none, ne_eq] at hb) | (with_reducible refine draw_same ?_) | ((with_reducible refine gd_split ?_ (fun _ => ?_) (fun _ => ?_)); exact rfl) | ((with_reducible refine td_split ?_ (fun _ => ?_) (fun _ => ?_)); exact rfl) | (with_reducible refine c_split (fun _ => ?_) (fun _ => ?_)))
    exact ret_same (h _ r1.hle)
end Go.Proofs.Ytfjhjfddgdokgaa
namespace Go.Proofs.Ytfjhjfddgdokgaa
set_option linter.all false
open Go Go.RowKit
set_option maxRecDepth 100000
variable (w0 : World)
theorem compE_two (d : Nat) (op n : Int) (x y : Ex) (i : Int) (h0 : op ≠ 0) (h13 : op ≠ 13) : (comp (d + 1) (.mk op n [x, y]) i).length = 1 + (comp d x i).length + (comp d y (i + 1)).length := by
  simp only [comp, if_neg h0, if_neg h13, List.length_append, List.length_cons, List.length_nil]; omega
theorem l4Size_ok (d : Nat) : ∀ (e : Ex) (i : Int) (a : Option Addr) (c : Nat) (H : AHeap) (K : Value → AHeap → Prop), d ≤ 20 → exprOk d e = true → ExV H e [.int .i64 e.op, .int .i64 e.n, .slice a e.args.length c] → K (.int .i64 ((comp d e i).length : Nat)) H →
    ACalls Try.prog w0 174 [.agg #[.int .i64 e.op, .int .i64 e.n, .slice a e.args.length c]] H K := by
  induction d with
  | zero => intro e i a c H K hd ho; rw [ok_zero] at ho; cases ho
  | succ d ih =>
    intro ⟨op, n, args⟩ i a c H K hd ho hv h
    obtain ⟨_, _, he, hm, hR⟩ := hv.open_
    simp only [List.cons.injEq, and_true, Value.slice.injEq, true_and] at he
    obtain ⟨rfl, rfl⟩ := he
    simp only [Ex.op, Ex.n, Ex.args] at hR hm hv ⊢
    rcases ok_args ho with ⟨rfl, h13⟩ | ⟨x, y, rfl, hox, hoy, h3⟩
    · have g3 : (((0 : Nat) : Int) == 0) = true := by decide
      have e1 : (comp (d + 1) (.mk op n []) i).length = 1 := by
        rcases h13 with rfl | rfl <;> rfl
      rw [e1] at h
      refine acalls_of_sx mix Try.func174 of174 (by simp [ir174]) ?_; rw [ir174]; (try delta qT qI qC qO qM qG)
      repeat' (first | simp -implicitDefEqProofs only [zG1,zG2,zG3,zG4,zG5,zG6,zG7,eq_self,resV,rval,X.val,binv,fillL,setR,↓reduceIte,Nat.reduceEqDiff,Nat.reduceAdd,Nat.reduceMul,Nat.reduceLeDiff,Nat.reduceLT,Nat.reduceSub,reduceCtorEq,zGr, g3] | ((with_reducible refine rows_intro (fun _ hb => ?_)); try simp only [set_none, ne_eq] at hb) | ((with_reducible refine new_intro (fun _ hb => ?_)); try simp only [set_none, ne_eq] at hb) | (with_reducible refine draw_same ?_) | ((with_reducible refine gd_split ?_ (fun _ => ?_) (fun _ => ?_)); exact rfl) | ((with_reducible refine td_split ?_ (fun _ => ?_) (fun _ => ?_)); exact rfl) | (with_reducible refine c_split (fun _ => ?_) (fun _ => ?_)))
      exact ⟨H, (by simp -implicitDefEqProofs only [le_set_true, le_refl_true, eq_self, *]), h⟩
    · have g3 : (((2 : Nat) : Int) == 0) = false := by decide
      obtain ⟨a', c', b', d', hc, hx, hy⟩ := hR.two
      rw [compE_two d op n x y i (by omega) (by omega)] at h
      have l1 : (comp d x i).length < 1048576 := Nat.lt_of_lt_of_le (comp_len d x i) (Nat.pow_le_pow_right (by omega) (show d ≤ 20 by omega))
      have l2 : (comp d y (i + 1)).length < 1048576 := Nat.lt_of_lt_of_le (comp_len d y (i + 1)) (Nat.pow_le_pow_right (by omega) (show d ≤ 20 by omega))
      have g4 : IntKind.i64.wrap (1 + ((comp d x i).length : Int)) = ((1 + (comp d x i).length : Nat) : Int) := by rw [wrap_i64 (by omega) (by omega)]; omega
      have g5 : IntKind.i64.wrap (((1 + (comp d x i).length : Nat) : Int) + ((comp d y (i + 1)).length : Int)) = ((1 + (comp d x i).length + (comp d y (i + 1)).length : Nat) : Int) := by rw [wrap_i64 (by omega) (by omega)]; omega
      refine acalls_of_sx mix Try.func174 of174 (by simp [ir174]) ?_; rw [ir174]; (try delta qT qI qC qO qM qG)
      repeat' (first | simp -implicitDefEqProofs only [zG1,zG2,zG3,zG4,zG5,zG6,zG7,eq_self,resV,rval,X.val,binv,fillL,setR,↓reduceIte,Nat.reduceEqDiff,Nat.reduceAdd,Nat.reduceMul,Nat.reduceLeDiff,Nat.reduceLT,Nat.reduceSub,reduceCtorEq,zGr, z20, z21, g3, g4, g5, Int.toNat_zero, Int.toNat_one, Nat.zero_mul, Nat.one_mul, cell_old, *] | ((with_reducible refine rows_intro (fun _ hb => ?_)); try simp only [set_none, ne_eq] at hb) | ((with_reducible refine new_intro (fun _ hb => ?_)); try simp only [set_none, ne_eq] at hb) | (with_reducible refine draw_same ?_) | ((with_reducible refine gd_split ?_ (fun _ => ?_) (fun _ => ?_)); exact rfl) | ((with_reducible refine td_split ?_ (fun _ => ?_) (fun _ => ?_)); exact rfl) | (with_reducible refine c_split (fun _ => ?_) (fun _ => ?_)) | (with_reducible refine ih x i a' c' _ _ (by omega) hox (hx.le ((AHeap.le.refl H).fresh ‹_› _)) ?_) | (with_reducible refine ih y (i + 1) b' d' _ _ (by omega) hoy (hy.le ((AHeap.le.refl H).fresh ‹_› _)) ?_))
      all_goals exact ⟨H, (by simp -implicitDefEqProofs only [le_set_true, le_refl_true, eq_self, *]), h⟩
theorem l4Size5_ok (e : Ex) (a : Option Addr) (c : Nat) (H : AHeap) (K : Value → AHeap → Prop) (ho : exprOk 5 e = true) (hv : ExV H e [.int .i64 e.op, .int .i64 e.n, .slice a e.args.length c]) (h : K (.int .i64 ((compE e).length : Nat)) H) :
    ACalls Try.prog w0 174 [.agg #[.int .i64 e.op, .int .i64 e.n, .slice a e.args.length c]] H K := l4Size_ok w0 5 e 4 a c H K (by decide) ho hv h
abbrev OnP (d : Nat) : Prop := ∀ (s : St) (A0 : Option Addr) (c0 : Nat) (A1 : Option Addr) (c1 : Nat) (A2 : Option Addr) (c2 : Nat) (H : AHeap) (K : Value → AHeap → Prop), stOk d s = true → s.cnt ≤ 1048576 →
  StV H s (stc s.kind s.var s.box s.e s.body.length s.els.length A0 c0 A1 c1 A2 c2) → K (.int .i64 (szS s)) H → ACalls Try.prog w0 132 [stv s.kind s.var s.box s.e s.body.length s.els.length A0 c0 A1 c1 A2 c2] H K
abbrev MaP (d : Nat) : Prop := ∀ (ss : List St) (A : Option Addr) (c : Nat) (H : AHeap) (K : Value → AHeap → Prop), ss.all (stOk d) = true → cntL ss ≤ 1048576 →
  StR H ss A 0 → K (.int .i64 (szL ss)) H → ACalls Try.prog w0 67 [.slice A ss.length c] H K
theorem maP_of (d : Nat) (ih : OnP w0 d) : MaP w0 d := by
  intro ss A c H K ho hc hR h
  have hl := cntL_len ss
  refine acalls_of_sx mix Try.func67 of67 (by simp [ir67]) ?_; rw [ir67]; (try delta qT qI qC qO qM qG)
  repeat' (first | simp -implicitDefEqProofs only [zG1,zG2,zG3,zG4,zG5,zG6,zG7,eq_self,resV,rval,X.val,binv,fillL,setR,↓reduceIte,Nat.reduceEqDiff,Nat.reduceAdd,Nat.reduceMul,Nat.reduceLeDiff,Nat.reduceLT,Nat.reduceSub,reduceCtorEq,zGr] | ((with_reducible refine rows_intro (fun _ hb => ?_)); try simp only [set_none, ne_eq] at hb) | ((with_reducible refine new_intro (fun _ hb => ?_)); try simp only [set_none, ne_eq] at hb) | (with_reducible refine draw_same ?_) | ((with_reducible refine gd_split ?_ (fun _ => ?_) (fun _ => ?_)); exact rfl) | ((with_reducible refine td_split ?_ (fun _ => ?_) (fun _ => ?_)); exact rfl) | (with_reducible refine c_split (fun _ => ?_) (fun _ => ?_)))
  refine for_rule ss.length (fun k fr C => C = H ∧ fr 0 = .slice A ss.length c ∧ fr 3 = .int .i64 (szL (ss.take k)) ∧ fr 4 = .int .i64 k)
    ⟨rfl, rfl, by simp [szL, put_at], rfl⟩ ?_ ?_
  · rintro k fr _ hk ⟨rfl, f0, f3, f4⟩ N hN
    have g0 := lt_dec hk
    have g1 := rng hk
    have g2 := up1 hk (by omega)
    obtain ⟨gA, a0, d0, a1, d1, a2, d2, gp, hx⟩ := hR.arg hk
    have hct := cntL_at hk
    have hst := szL_take hk
    have hsl := szL_take_le ss (k + 1)
    have hsb := szL_le ss
    have ok : stOk d ss[k] = true := by
      rw [List.all_eq_true] at ho
      exact ho _ (List.getElem_mem hk)
    have w1 : IntKind.i64.wrap ((szL (ss.take k) : Int) + (szS ss[k] : Int)) = (szL (ss.take (k + 1)) : Int) := by rw [wrap_i64 (by omega) (by omega)]; omega
    repeat' (first | simp -implicitDefEqProofs only [zG1,zG2,zG3,zG4,zG5,zG6,zG7,eq_self,resV,rval,X.val,binv,fillL,setR,↓reduceIte,Nat.reduceEqDiff,Nat.reduceAdd,Nat.reduceMul,Nat.reduceLeDiff,Nat.reduceLT,Nat.reduceSub,reduceCtorEq,zGr, f0, f3, f4, g0, g1, g2, gA, gp, w1, Nat.add_zero] | ((with_reducible refine rows_intro (fun _ hb => ?_)); try simp only [set_none, ne_eq] at hb) | ((with_reducible refine new_intro (fun _ hb => ?_)); try simp only [set_none, ne_eq] at hb) | (with_reducible refine draw_same ?_) | ((with_reducible refine gd_split ?_ (fun _ => ?_) (fun _ => ?_)); exact rfl) | ((with_reducible refine td_split ?_ (fun _ => ?_) (fun _ => ?_)); exact rfl) | (with_reducible refine c_split (fun _ => ?_) (fun _ => ?_)) | (with_reducible refine ih ss[k] a0 d0 a1 d1 a2 d2 _ _ ok (by omega) hx ?_))
    exact hN _ _ _ (.refl _) ⟨rfl, (by first | rfl | (simp only [put_at, ↓reduceIte, Nat.reduceEqDiff]; first | done | rfl | assumption) | simp [put_at, *]), (by first | rfl | (simp only [put_at, ↓reduceIte, Nat.reduceEqDiff]; first | done | rfl | assumption) | simp [put_at, *]), (by first | rfl | (simp only [put_at, ↓reduceIte, Nat.reduceEqDiff]; first | done | rfl | assumption) | simp [put_at, *])⟩
  · rintro fr _ ⟨rfl, f0, f3, f4⟩ N
    have g0 : decide ((ss.length : Int) < (ss.length : Int)) = false := by simp
    rw [List.take_length] at f3
    repeat' (first | simp -implicitDefEqProofs only [zG1,zG2,zG3,zG4,zG5,zG6,zG7,eq_self,resV,rval,X.val,binv,fillL,setR,↓reduceIte,Nat.reduceEqDiff,Nat.reduceAdd,Nat.reduceMul,Nat.reduceLeDiff,Nat.reduceLT,Nat.reduceSub,reduceCtorEq,zGr, f0, f3, f4, g0] | ((with_reducible refine rows_intro (fun _ hb => ?_)); try simp only [set_none, ne_eq] at hb) | ((with_reducible refine new_intro (fun _ hb => ?_)); try simp only [set_none, ne_eq] at hb) | (with_reducible refine draw_same ?_) | ((with_reducible refine gd_split ?_ (fun _ => ?_) (fun _ => ?_)); exact rfl) | ((with_reducible refine td_split ?_ (fun _ => ?_) (fun _ => ?_)); exact rfl) | (with_reducible refine c_split (fun _ => ?_) (fun _ => ?_)))
    exact ret_same h
theorem onP_of (d : Nat) (ih : ∀ d', d = d' + 1 → MaP w0 d') : OnP w0 d := by
  intro s A0 c0 A1 c1 A2 c2 H K ho hc hv h
  obtain ⟨hE, ⟨hb1, hb2⟩, hl1, hl2⟩ := hv.parts
  have hcs := s.cnt_eq
  have he := compE_le s.e
  have he5 := stOk_e ho
  have hszb := szL_le s.body
  have hszl := szL_le s.els
  have e2 := emp St s.els
  have e3 : szS s = if s.kind = 2 then (compE s.e).length + 1 + szL s.body + (if s.els.isEmpty then 0 else 1 + szL s.els) else if s.kind = 3 then (compE s.e).length + 2 + szL s.body else if s.kind = 5 ∨ s.kind = 6 then 1 else (compE s.e).length + 1 := by
    cases s; simp only [szS, St.kind, St.e, St.body, St.els]
    repeat' split
    all_goals first | rfl | (exfalso; simp_all; done) | grind
  rw [e3] at h
  have w1 : IntKind.i64.wrap (((compE s.e).length : Int) + 1) = (((compE s.e).length + 1 : Nat) : Int) := nat_up (by omega)
  have w2 : IntKind.i64.wrap (((compE s.e).length : Int) + 2) = (((compE s.e).length + 2 : Nat) : Int) := by rw [wrap_i64 (by omega) (by omega)]; omega
  have w3 : IntKind.i64.wrap ((((compE s.e).length + 1 : Nat) : Int) + (szL s.body : Int)) = (((compE s.e).length + 1 + szL s.body : Nat) : Int) := nat_add (by omega)
  have w4 : IntKind.i64.wrap ((((compE s.e).length + 2 : Nat) : Int) + (szL s.body : Int)) = (((compE s.e).length + 2 + szL s.body : Nat) : Int) := nat_add (by omega)
  have w5 : IntKind.i64.wrap ((((compE s.e).length + 1 + szL s.body : Nat) : Int) + 1) = (((compE s.e).length + 1 + szL s.body + 1 : Nat) : Int) := nat_up (by omega)
  have w6 : IntKind.i64.wrap ((((compE s.e).length + 1 + szL s.body + 1 : Nat) : Int) + (szL s.els : Int)) = (((compE s.e).length + 1 + szL s.body + 1 + szL s.els : Nat) : Int) := nat_add (by omega)
  by_cases hk : s.kind = 2 ∨ s.kind = 3
  · obtain ⟨d', rfl, hb, ho1, ho2⟩ := stOk_block ho hk
    have ihd := ih d' rfl
    rcases hk with hk | hk
    all_goals
      refine acalls_of_sx mix Try.func132 of132 (by simp [ir132]) ?_; rw [ir132]; (try delta qT qI qC qO qM qG)
      repeat' (first | simp -implicitDefEqProofs only [zG1,zG2,zG3,zG4,zG5,zG6,zG7,eq_self,resV,rval,X.val,binv,fillL,setR,↓reduceIte,Nat.reduceEqDiff,Nat.reduceAdd,Nat.reduceMul,Nat.reduceLeDiff,Nat.reduceLT,Nat.reduceSub,reduceCtorEq,zGr, hk, e2, w1, w2, w3, w4, w5, w6] | ((with_reducible refine rows_intro (fun _ hb => ?_)); try simp only [set_none, ne_eq] at hb) | ((with_reducible refine new_intro (fun _ hb => ?_)); try simp only [set_none, ne_eq] at hb) | (with_reducible refine draw_same ?_) | ((with_reducible refine gd_split ?_ (fun _ => ?_) (fun _ => ?_)); exact rfl) | ((with_reducible refine td_split ?_ (fun _ => ?_) (fun _ => ?_)); exact rfl) | (with_reducible refine c_split (fun _ => ?_) (fun _ => ?_)) | (with_reducible refine l4Size5_ok _ s.e A0 c0 _ _ he5 (hE.le ((AHeap.le.refl H).fresh ‹_› _)) ?_) | (with_reducible refine ihd s.body A1 c1 _ _ ho1 (by omega) (hb2.le ((AHeap.le.refl H).fresh ‹_› _)) ?_) | (with_reducible refine ihd s.els A2 c2 _ _ ho2 (by omega) (hl2.le ((AHeap.le.refl H).fresh ‹_› _)) ?_))
      all_goals refine ⟨H, (by simp -implicitDefEqProofs only [le_set_true, le_refl_true, eq_self, *]), ki h ?_⟩
      all_goals clear h hv hE hb2 hl2 ih ihd
      all_goals (try simp only [beq_iff_eq, beq_eq_false_iff_ne, bne_iff_ne, bne_eq_false_iff_eq, decide_eq_true_eq, decide_eq_false_iff_not, ne_eq, Bool.not_eq_true, Bool.not_eq_false, Bool.not_eq_eq_eq_not, Bool.not_true, Bool.not_false, Int.not_lt, Int.not_le, ge_iff_le, gt_iff_lt] at *)
      all_goals grind
  · have k2 : ¬ s.kind = 2 := fun e => hk (.inl e)
    have k3 : ¬ s.kind = 3 := fun e => hk (.inr e)
    have d2 : (s.kind == 2) = false := by simpa using k2
    have d3 : (s.kind == 3) = false := by simpa using k3
    refine acalls_of_sx mix Try.func132 of132 (by simp [ir132]) ?_; rw [ir132]; (try delta qT qI qC qO qM qG)
    repeat' (first | simp -implicitDefEqProofs only [zG1,zG2,zG3,zG4,zG5,zG6,zG7,eq_self,resV,rval,X.val,binv,fillL,setR,↓reduceIte,Nat.reduceEqDiff,Nat.reduceAdd,Nat.reduceMul,Nat.reduceLeDiff,Nat.reduceLT,Nat.reduceSub,reduceCtorEq,zGr, w1, d2, d3] | ((with_reducible refine rows_intro (fun _ hb => ?_)); try simp only [set_none, ne_eq] at hb) | ((with_reducible refine new_intro (fun _ hb => ?_)); try simp only [set_none, ne_eq] at hb) | (with_reducible refine draw_same ?_) | ((with_reducible refine gd_split ?_ (fun _ => ?_) (fun _ => ?_)); exact rfl) | ((with_reducible refine td_split ?_ (fun _ => ?_) (fun _ => ?_)); exact rfl) | (with_reducible refine c_split (fun _ => ?_) (fun _ => ?_)) | (with_reducible refine l4Size5_ok _ s.e A0 c0 _ _ he5 (hE.le ((AHeap.le.refl H).fresh ‹_› _)) ?_))
    all_goals refine ⟨H, (by simp -implicitDefEqProofs only [le_set_true, le_refl_true, eq_self, *]), ki h ?_⟩
    all_goals clear h hv hE hb2 hl2 ih
    all_goals (try simp only [beq_iff_eq, beq_eq_false_iff_ne, bne_iff_ne, bne_eq_false_iff_eq, decide_eq_true_eq, decide_eq_false_iff_not, ne_eq, Bool.not_eq_true, Bool.not_eq_false, Bool.not_eq_eq_eq_not, Bool.not_true, Bool.not_false, Int.not_lt, Int.not_le, ge_iff_le, gt_iff_lt] at *)
    all_goals grind
theorem onP : ∀ d, d ≤ 1000 → OnP w0 d
  | 0, _ => onP_of w0 0 fun d' e => by omega
  | d + 1, h => onP_of w0 (d + 1) fun d' e => by
    obtain rfl : d' = d := (by omega)
    exact maP_of w0 d' (onP d' (by omega))
theorem l22Many3_ok : MaP w0 3 := maP_of w0 3 (onP w0 3 (by decide))
theorem compileSizeS_ok (ss : List St) (A : Option Addr) (c : Nat) (H : AHeap) (K : Value → AHeap → Prop) (hc : cntL ss ≤ 1048576) (hR : StR H ss A 0) (h : K (.int .i64 (compSize ss)) H) :
    ACalls Try.prog w0 13 [.slice A ss.length c] H K := by
  have hs := szL_le ss
  cases ho : stsOk ss with
  | false =>
    simp only [compSize, ho] at h
    refine acalls_of_sx mix Try.func13 of13 (by simp [ir13]) ?_; rw [ir13]; (try delta qT qI qC qO qM qG)
    repeat' (first | simp -implicitDefEqProofs only [zG1,zG2,zG3,zG4,zG5,zG6,zG7,eq_self,resV,rval,X.val,binv,fillL,setR,↓reduceIte,Nat.reduceEqDiff,Nat.reduceAdd,Nat.reduceMul,Nat.reduceLeDiff,Nat.reduceLT,Nat.reduceSub,reduceCtorEq,zGr, ho] | ((with_reducible refine rows_intro (fun _ hb => ?_)); try simp only [set_none, ne_eq] at hb) | ((with_reducible refine new_intro (fun _ hb => ?_)); try simp only [set_none, ne_eq] at hb) | (with_reducible refine draw_same ?_) | ((with_reducible refine gd_split ?_ (fun _ => ?_) (fun _ => ?_)); exact rfl) | ((with_reducible refine td_split ?_ (fun _ => ?_) (fun _ => ?_)); exact rfl) | (with_reducible refine c_split (fun _ => ?_) (fun _ => ?_)) | (with_reducible refine stmtsValidS_ok _ ss A c _ _ (by omega) hR ?_))
    exact ret_same h
  | true =>
    simp only [compSize, ho, if_true] at h
    have w1 : IntKind.i64.wrap ((szL ss : Int) + 1) = ((szL ss + 1 : Nat) : Int) := nat_up (by omega)
    have ho' := ho
    simp only [stsOk, Bool.and_eq_true, decide_eq_true_eq] at ho'
    refine acalls_of_sx mix Try.func13 of13 (by simp [ir13]) ?_; rw [ir13]; (try delta qT qI qC qO qM qG)
    repeat' (first | simp -implicitDefEqProofs only [zG1,zG2,zG3,zG4,zG5,zG6,zG7,eq_self,resV,rval,X.val,binv,fillL,setR,↓reduceIte,Nat.reduceEqDiff,Nat.reduceAdd,Nat.reduceMul,Nat.reduceLeDiff,Nat.reduceLT,Nat.reduceSub,reduceCtorEq,zGr, ho, w1] | ((with_reducible refine rows_intro (fun _ hb => ?_)); try simp only [set_none, ne_eq] at hb) | ((with_reducible refine new_intro (fun _ hb => ?_)); try simp only [set_none, ne_eq] at hb) | (with_reducible refine draw_same ?_) | ((with_reducible refine gd_split ?_ (fun _ => ?_) (fun _ => ?_)); exact rfl) | ((with_reducible refine td_split ?_ (fun _ => ?_) (fun _ => ?_)); exact rfl) | (with_reducible refine c_split (fun _ => ?_) (fun _ => ?_)) | (with_reducible refine stmtsValidS_ok _ ss A c _ _ (by omega) hR ?_) | (with_reducible refine l22Many3_ok _ ss A c _ _ ho'.1 (by omega) hR ?_))
    exact ret_same h
end Go.Proofs.Ytfjhjfddgdokgaa
namespace Go.Proofs.Ytfjhjfddgdokgaa
set_option linter.all false
open Go Go.RowKit Go.Joins Go.ChangeShapes Go.WideShapes Go.ChangeAt Go.Deep
set_option linter.unusedVariables false
set_option maxRecDepth 100000
theorem lawCompileSize_ok (w0 : World) (H : AHeap) (K : Value → AHeap → Prop) (A : Option Addr) (c : Nat) (ss : List St) (hR : StR H ss A 0) (hm : ss.length ≤ maxLen) (h : ∀ H', K (.bool true) H') :
    ACalls Try.prog w0 3 [.slice A ss.length c] H K := by
  have hcz := cntL_szT ss
  by_cases hbig : (1048576 : Int) < szT ss
  · have d1 : decide ((-1 : Int) < 0) = true := by decide
    refine acalls_of_sx mix Try.func3 of3 (by simp [ir3]) ?_; rw [ir3]; (try delta qT qI qC qO qM qG)
    repeat' (first | simp -implicitDefEqProofs only [zG1,zG2,zG3,zG4,zG5,zG6,zG7,eq_self,resV,rval,X.val,binv,fillL,setR,↓reduceIte,Nat.reduceEqDiff,Nat.reduceAdd,Nat.reduceMul,Nat.reduceLeDiff,Nat.reduceLT,Nat.reduceSub,reduceCtorEq,zGq, hbig, d1] | ((with_reducible refine rows_intro (fun _ hb => ?_)); try simp only [set_none, ne_eq] at hb) | ((with_reducible refine new_intro (fun _ hb => ?_)); try simp only [set_none, ne_eq] at hb) | (with_reducible refine draw_same ?_) | ((with_reducible refine gd_split ?_ (fun _ => ?_) (fun _ => ?_)); exact rfl) | ((with_reducible refine td_split ?_ (fun _ => ?_) (fun _ => ?_)); exact rfl) | (with_reducible refine c_split (fun _ => ?_) (fun _ => ?_)) | (with_reducible refine szStmtS_ok w0 ss A c 1048576 _ _ hR hm (by decide) (by decide) ?_))
    exact ret_same (h _)
  · have d1 : decide ((1048576 : Int) - szT ss < 0) = false := by simp; omega
    refine acalls_of_sx mix Try.func3 of3 (by simp [ir3]) ?_; rw [ir3]; (try delta qT qI qC qO qM qG)
    repeat' (first | simp -implicitDefEqProofs only [zG1,zG2,zG3,zG4,zG5,zG6,zG7,eq_self,resV,rval,X.val,binv,fillL,setR,↓reduceIte,Nat.reduceEqDiff,Nat.reduceAdd,Nat.reduceMul,Nat.reduceLeDiff,Nat.reduceLT,Nat.reduceSub,reduceCtorEq,zGq, hbig, d1] | ((with_reducible refine rows_intro (fun _ hb => ?_)); try simp only [set_none, ne_eq] at hb) | ((with_reducible refine new_intro (fun _ hb => ?_)); try simp only [set_none, ne_eq] at hb) | (with_reducible refine draw_same ?_) | ((with_reducible refine gd_split ?_ (fun _ => ?_) (fun _ => ?_)); exact rfl) | ((with_reducible refine td_split ?_ (fun _ => ?_) (fun _ => ?_)); exact rfl) | (with_reducible refine c_split (fun _ => ?_) (fun _ => ?_)) | (with_reducible refine szStmtS_ok w0 ss A c 1048576 _ _ hR hm (by decide) (by decide) ?_))
    refine toStmtS_ok w0 ss A c _ _ hR (by omega) (fun b1 C1 l1 t1 => ?_)
    repeat' (first | simp -implicitDefEqProofs only [zG1,zG2,zG3,zG4,zG5,zG6,zG7,eq_self,resV,rval,X.val,binv,fillL,setR,↓reduceIte,Nat.reduceEqDiff,Nat.reduceAdd,Nat.reduceMul,Nat.reduceLeDiff,Nat.reduceLT,Nat.reduceSub,reduceCtorEq,zGq] | ((with_reducible refine rows_intro (fun _ hb => ?_)); try simp only [set_none, ne_eq] at hb) | ((with_reducible refine new_intro (fun _ hb => ?_)); try simp only [set_none, ne_eq] at hb) | (with_reducible refine draw_same ?_) | ((with_reducible refine gd_split ?_ (fun _ => ?_) (fun _ => ?_)); exact rfl) | ((with_reducible refine td_split ?_ (fun _ => ?_) (fun _ => ?_)); exact rfl) | (with_reducible refine c_split (fun _ => ?_) (fun _ => ?_)) | (with_reducible refine compileSizeS_ok _ ss _ _ _ _ (by omega) (StR.le (off_le _ _) t1.1) ?_))
    refine toStmtS_ok w0 ss A c _ _ (StR.le l1 hR) (by omega) (fun b2 C2 l2 t2 => ?_)
    repeat' (first | simp -implicitDefEqProofs only [zG1,zG2,zG3,zG4,zG5,zG6,zG7,eq_self,resV,rval,X.val,binv,fillL,setR,↓reduceIte,Nat.reduceEqDiff,Nat.reduceAdd,Nat.reduceMul,Nat.reduceLeDiff,Nat.reduceLT,Nat.reduceSub,reduceCtorEq,zGq] | ((with_reducible refine rows_intro (fun _ hb => ?_)); try simp only [set_none, ne_eq] at hb) | ((with_reducible refine new_intro (fun _ hb => ?_)); try simp only [set_none, ne_eq] at hb) | (with_reducible refine draw_same ?_) | ((with_reducible refine gd_split ?_ (fun _ => ?_) (fun _ => ?_)); exact rfl) | ((with_reducible refine td_split ?_ (fun _ => ?_) (fun _ => ?_)); exact rfl) | (with_reducible refine c_split (fun _ => ?_) (fun _ => ?_)))
    refine compileSize_ok _ ss _ _ C2 _ (by omega) (StR.le (off_le _ _) t2.1) (fun C3 l3 => ?_)
    repeat' (first | simp -implicitDefEqProofs only [zG1,zG2,zG3,zG4,zG5,zG6,zG7,eq_self,resV,rval,X.val,binv,fillL,setR,↓reduceIte,Nat.reduceEqDiff,Nat.reduceAdd,Nat.reduceMul,Nat.reduceLeDiff,Nat.reduceLT,Nat.reduceSub,reduceCtorEq,zGq, bne_self_eq_false] | ((with_reducible refine rows_intro (fun _ hb => ?_)); try simp only [set_none, ne_eq] at hb) | ((with_reducible refine new_intro (fun _ hb => ?_)); try simp only [set_none, ne_eq] at hb) | (with_reducible refine draw_same ?_) | ((with_reducible refine gd_split ?_ (fun _ => ?_) (fun _ => ?_)); exact rfl) | ((with_reducible refine td_split ?_ (fun _ => ?_) (fun _ => ?_)); exact rfl) | (with_reducible refine c_split (fun _ => ?_) (fun _ => ?_)))
    refine toStmtS_ok w0 ss A c _ _ (StR.le (l1.trans (l2.trans l3)) hR) (by omega) (fun b4 C4 l4 t4 => ?_)
    repeat' (first | simp -implicitDefEqProofs only [zG1,zG2,zG3,zG4,zG5,zG6,zG7,eq_self,resV,rval,X.val,binv,fillL,setR,↓reduceIte,Nat.reduceEqDiff,Nat.reduceAdd,Nat.reduceMul,Nat.reduceLeDiff,Nat.reduceLT,Nat.reduceSub,reduceCtorEq,zGq] | ((with_reducible refine rows_intro (fun _ hb => ?_)); try simp only [set_none, ne_eq] at hb) | ((with_reducible refine new_intro (fun _ hb => ?_)); try simp only [set_none, ne_eq] at hb) | (with_reducible refine draw_same ?_) | ((with_reducible refine gd_split ?_ (fun _ => ?_) (fun _ => ?_)); exact rfl) | ((with_reducible refine td_split ?_ (fun _ => ?_) (fun _ => ?_)); exact rfl) | (with_reducible refine c_split (fun _ => ?_) (fun _ => ?_)) | (with_reducible refine eqStmtS_ok w0 ss _ _ _ _ _ _ (StR.le ((off_le _ _).trans (l3.trans l4)) t2.1) (StR.le (off_le _ _) t4.1) (by omega) ?_))
    exact ret_same (h _)
namespace fnExactCompileSize
theorem lifted (os : Os) (started : os.Started) (H : Type) (enc : TypeId × Value → H) :
    ReturnsInHanded {} Try.checked os 3 .any (Rows.fnExactCompileSizeSpec.pre6 enc Try.prog Try.f3 Rows.fnExactCompileSizeRow.domain false) (Rows.fnExactCompileSizeSpec.post enc Try.prog Try.f3 false true false false) := by
  refine returnsInHanded_of_change_sized (C := Try.checked) own started (by kernel_rfl) Try.func3
    (ChangeSpec.witness6 (enc := enc) (C := Try.checked) false ⟨#[], #[.slice none 0 0], []⟩ 8 (by kernel_rfl) (by kernel_rfl) (by kernel_rfl) (by kernel_rfl)) ?_
  intro W base args ds gs before hval0 hW hcnd hsz0 _
  have hval : ∀ (j : Nat) t v, Try.f3.params[j]? = some t → args[j]? = some v → Value.okWide Try.prog W .any base t v := hval0
  have hW' := hW
  obtain ⟨p, q, hA0, hV, rfl, hfz, hnd⟩ := hW
  have hA : DataW.TrodAll enc Try.prog W 0 (fun _ => true) true Try.f3.params.toList args.toList ds p := hA0
  rw [Try.params3] at hA hval
  obtain ⟨v0, vs0, d0, ds0, p0, q0, hargs, rfl, rfl, h0, r0⟩ := trodAll_cons hA
  obtain ⟨rfl, rfl, rfl⟩ := trodAll_nil r0
  obtain rfl : args = #[v0] := by cases args; simp_all
  obtain ⟨rfl, rfl⟩ := trodVars_none hV
  have k0 := h0
  have lt0 : ∀ x ∈ p0, x.block < W.heap.size := by obtain ⟨m, hm⟩ := k0; exact DataW.trod_lt m _ _ _ hm
  obtain ⟨a0, len0, cap0, rfl⟩ := okWide_slice Try.underlying22 (hval 0 22 v0 rfl rfl)
  obtain ⟨ss0, hl0, hm0, f0⟩ : ∃ ss : List St, len0 = ss.length ∧ ss.length ≤ maxLen ∧ StR (heapOf W) ss a0 0 := by
    obtain ⟨fuel, hf⟩ := h0
    obtain ⟨ss, A, c, e, h1, h2⟩ := open_stmts Try.underlying22 (by kernel_rfl) (open_stmt Try.underlying99 Try.underlying22 Try.underlying3 ⟨rfl, rfl, rfl, rfl, rfl, rfl⟩ ⟨rfl, rfl, rfl, rfl, rfl, rfl⟩ (by kernel_rfl) (by kernel_rfl) (by kernel_rfl) (by kernel_rfl) (open_expr Try.underlying97 Try.underlying95 Try.underlying3 ⟨rfl, rfl, rfl⟩ ⟨rfl, rfl, rfl⟩ (by kernel_rfl) (by kernel_rfl) (by kernel_rfl))) hf
    simp only [Value.slice.injEq] at e
    obtain ⟨rfl, rfl, rfl⟩ := e
    exact ⟨ss, rfl, h1, h2⟩
  subst hl0
  refine (calls_true (lawCompileSize_ok W (heapOf W) _ a0 cap0 ss0 f0 hm0 (fun _ => rfl)) (sat_heap W)).mono fun e W' ⟨he, bel⟩ => ?_
  subst he
  exact ⟨_, rfl, _, _, _, [], _, [], hW', trodAll_mk1 (shut_bool Try.underlying4 _), (trodAll_cons_mk (Below.trod laidOut (by kernel_rfl) (of_decide_eq_true (by kernel_rfl)) k0 bel lt0) trodAll_mk0), rfl, bel.frame _, fun h => by cases h⟩
theorem over : Rows.fnExactCompileSizeRow.holds Try.pinned (OpenSpec.ofChange Rows.fnExactCompileSizeSpec) :=
  OpenClaim.holds_of_wide 3 Try.f3 rfl rfl rfl rfl rfl rfl rfl ⟨rfl, rfl, rfl, rfl, rfl⟩ rfl rfl rfl rfl rfl (by kernel_rfl) Try.func3 (by kernel_rfl)
    (of_decide_eq_true (by kernel_rfl)) (by unfold Func.isWrapper; first | (rw [if_pos (by decide +kernel)]; kernel_rfl) | (rw [if_neg (by decide +kernel)]; exact ⟨rfl, rfl⟩))
    (fun os started H enc _ => lifted os started H enc)
end fnExactCompileSize
theorem fnExactCompileSize_holds : Rows.FnExactCompileSizeSaid := fnExactCompileSize.over
#print axioms fnExactCompileSize_holds
end Go.Proofs.Ytfjhjfddgdokgaa
