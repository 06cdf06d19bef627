/- The statement FnSqueezeKinds holds for all arguments; part 3 of the texts that show it. No further condition. -/
import Derived.Test.YtodhkodhndbpmaaGreatFnSqueezeKindsP2
namespace Go.Proofs.YtodhkodhndbpmaaGreat
set_option linter.all false
open Go Go.RowKit
set_option maxRecDepth 100000
variable (w0 : World)
theorem pl1 {u : Int} (h0 : 0 ≤ u) (h1 : u < 3) : IntKind.i64.wrap (1 + u) = 1 + u := wrap_i64 (by omega) (by omega)
set_option maxHeartbeats 2000000 in
theorem l92Loop_ok (d : Nat) (hd3 : d ≤ 3) (ih : BlkP w0 d) {S : Src} {b : Nat} {H : AHeap} {p : Int} (K : Value → AHeap → Prop) (hr : RdK S H b p) (B : Int) (hB : B ≤ 3) (h0 : 0 ≤ p) (h1 : p + (2 * pB d + 10) ≤ 1099511600000)
    (h : OutL S b H p (d + 1) (2 * cB d + 3) (2 * pB d + 10) K) : ACalls Tryz.prog w0 82 [.pointer (some ⟨b, 0, none⟩), .int .i64 B, .int .i64 ((d + 1 : Nat) : Int)] H K := by
  have w0' : IntKind.i64.wrap (((d + 1 : Nat) : Int) - 1) = (d : Int) := nat_dn (by omega)
  refine acalls_of_sx mix Tryz.func82 of82 (by simp [ir82]) ?_; rw [ir82]; (try delta qT qI qC qO qM qG)
  repeat' (first | simp -implicitDefEqProofs only [zG1,zG2,zG3,zG4,zG5,zG6,zG7,eq_self,resV,rval,X.val,binv,fillL,setR,↓reduceIte,Nat.reduceEqDiff,Nat.reduceAdd,Nat.reduceMul,Nat.reduceLeDiff,Nat.reduceLT,Nat.reduceSub,reduceCtorEq,zGq, w0'] | ((with_reducible refine rows_intro (fun _ hb => ?_)); try simp only [set_none, ne_eq] at hb) | ((with_reducible refine new_intro (fun _ hb => ?_)); try simp only [set_none, ne_eq] at hb) | (with_reducible refine draw_same ?_) | ((with_reducible refine gd_split ?_ (fun _ => ?_) (fun _ => ?_)); exact rfl) | ((with_reducible refine td_split ?_ (fun _ => ?_) (fun _ => ?_)); exact rfl) | (with_reducible refine c_split (fun _ => ?_) (fun _ => ?_)))
  refine pickK_ok _ _ hr 3 (by omega) (by omega) (by decide) (fun v1 C1 r1 d1 hv0 hv1 => ?_)
  obtain ⟨i, rfl⟩ := nat3 hv0
  have hi : i < 3 := by omega
  repeat' (first | simp -implicitDefEqProofs only [zG1,zG2,zG3,zG4,zG5,zG6,zG7,eq_self,resV,rval,X.val,binv,fillL,setR,↓reduceIte,Nat.reduceEqDiff,Nat.reduceAdd,Nat.reduceMul,Nat.reduceLeDiff,Nat.reduceLT,Nat.reduceSub,reduceCtorEq,zGq] | ((with_reducible refine rows_intro (fun _ hb => ?_)); try simp only [set_none, ne_eq] at hb) | ((with_reducible refine new_intro (fun _ hb => ?_)); try simp only [set_none, ne_eq] at hb) | (with_reducible refine draw_same ?_) | ((with_reducible refine gd_split ?_ (fun _ => ?_) (fun _ => ?_)); exact rfl) | ((with_reducible refine td_split ?_ (fun _ => ?_) (fun _ => ?_)); exact rfl) | (with_reducible refine c_split (fun _ => ?_) (fun _ => ?_)))
  refine ih S b C1 _ _ B i (2 * cB d) (2 * pB d) false r1 hB (by omega) (by omega) (mul3 hi) (mul3 hi) (by omega) (fun bd xs v2 bs C2 p2 r2 d2 n2 w2 s2 hbd hbl hbc hp0 hp1 => ?_)
  obtain ⟨A1, c1, rfl, -⟩ := w2.fl
  have d2' := d1.trans d2
  repeat' (first | simp -implicitDefEqProofs only [zG1,zG2,zG3,zG4,zG5,zG6,zG7,eq_self,resV,rval,X.val,binv,fillL,setR,↓reduceIte,Nat.reduceEqDiff,Nat.reduceAdd,Nat.reduceMul,Nat.reduceLeDiff,Nat.reduceLT,Nat.reduceSub,reduceCtorEq,zGq] | ((with_reducible refine rows_intro (fun _ hb => ?_)); try simp only [set_none, ne_eq] at hb) | ((with_reducible refine new_intro (fun _ hb => ?_)); try simp only [set_none, ne_eq] at hb) | (with_reducible refine draw_same ?_) | ((with_reducible refine gd_split ?_ (fun _ => ?_) (fun _ => ?_)); exact rfl) | ((with_reducible refine td_split ?_ (fun _ => ?_) (fun _ => ?_)); exact rfl) | (with_reducible refine c_split (fun _ => ?_) (fun _ => ?_)))
  refine l4Leaf_ok _ _ _ _ _ (fun A20 c20 C3 l3 => ?_)
  repeat' (first | simp -implicitDefEqProofs only [zG1,zG2,zG3,zG4,zG5,zG6,zG7,eq_self,resV,rval,X.val,binv,fillL,setR,↓reduceIte,Nat.reduceEqDiff,Nat.reduceAdd,Nat.reduceMul,Nat.reduceLeDiff,Nat.reduceLT,Nat.reduceSub,reduceCtorEq,zGq] | ((with_reducible refine rows_intro (fun _ hb => ?_)); try simp only [set_none, ne_eq] at hb) | ((with_reducible refine new_intro (fun _ hb => ?_)); try simp only [set_none, ne_eq] at hb) | (with_reducible refine draw_same ?_) | ((with_reducible refine gd_split ?_ (fun _ => ?_) (fun _ => ?_)); exact rfl) | ((with_reducible refine td_split ?_ (fun _ => ?_) (fun _ => ?_)); exact rfl) | (with_reducible refine c_split (fun _ => ?_) (fun _ => ?_)))
  refine l4Leaf_ok _ _ _ _ _ (fun A21 c21 C4 l4 => ?_)
  repeat' (first | simp -implicitDefEqProofs only [zG1,zG2,zG3,zG4,zG5,zG6,zG7,eq_self,resV,rval,X.val,binv,fillL,setR,↓reduceIte,Nat.reduceEqDiff,Nat.reduceAdd,Nat.reduceMul,Nat.reduceLeDiff,Nat.reduceLT,Nat.reduceSub,reduceCtorEq,zGq] | ((with_reducible refine rows_intro (fun _ hb => ?_)); try simp only [set_none, ne_eq] at hb) | ((with_reducible refine new_intro (fun _ hb => ?_)); try simp only [set_none, ne_eq] at hb) | (with_reducible refine draw_same ?_) | ((with_reducible refine gd_split ?_ (fun _ => ?_) (fun _ => ?_)); exact rfl) | ((with_reducible refine td_split ?_ (fun _ => ?_) (fun _ => ?_)); exact rfl) | (with_reducible refine c_split (fun _ => ?_) (fun _ => ?_)))
  refine l4Both_ok _ _ _ 8 (.mk 13 3 []) (.mk 0 1 []) A20 A21 c20 c21 (fun z C5 tz cz l5 hz kz => ?_)
  have d4' := d2'.then_le (l3.trans l4)
  have hzH := d4'.nov hz
  have hzb : ¬ z = b := fun e => d4'.b1 (e ▸ hz)
  have w4 := w2.trans (l3.trans l4)
  have hzs : ¬ z ∈ bs := fun hm => by
    rcases w4 with ⟨_, _, _, rfl⟩ | ⟨b', cap, _, rfl, _, _, _, hk⟩
    · cases hm
    · simp only [List.mem_cons, List.not_mem_nil, or_false] at hm
      subst hm; exact hk.ne hz
  repeat' (first | simp -implicitDefEqProofs only [zG1,zG2,zG3,zG4,zG5,zG6,zG7,eq_self,resV,rval,X.val,binv,fillL,setR,↓reduceIte,Nat.reduceEqDiff,Nat.reduceAdd,Nat.reduceMul,Nat.reduceLeDiff,Nat.reduceLT,Nat.reduceSub,reduceCtorEq,zGq] | ((with_reducible refine rows_intro (fun _ hb => ?_)); try simp only [set_none, ne_eq] at hb) | ((with_reducible refine new_intro (fun _ hb => ?_)); try simp only [set_none, ne_eq] at hb) | ((with_reducible refine gd_split ?_ (fun _ => ?_) (fun _ => ?_)); exact rfl) | ((with_reducible refine td_split ?_ (fun _ => ?_) (fun _ => ?_)); exact rfl) | (with_reducible refine c_split (fun _ => ?_) (fun _ => ?_)))
  rename_i x9
  have hx9 := hb
  have l6 := (AHeap.le.refl C5).fresh hx9 ⟨mo z, true, 75, 8⟩
  have w5 := w4.trans l5
  have k9 := Kn.same C5 x9 ⟨mo z, true, 75, 8⟩
  have x9b : ¬ x9 = b := fun e => (d4'.then_le l5).b1 (e ▸ hx9)
  have x9s : ¬ x9 ∈ bs := fun hm => by
    rcases w5 with ⟨_, _, _, rfl⟩ | ⟨b', cap, _, rfl, _, _, _, hk⟩
    · cases hm
    · simp only [List.mem_cons, List.not_mem_nil, or_false] at hm
      subst hm; exact hk.ne hx9
  have l26 := l3.trans (l4.trans (l5.trans l6))
  have r9 := r2.le l26
  have d9 := d2'.then_le l26
  have w9 := w2.trans l26
  have kz9 := kz.trans l6
  generalize C5.set x9 ⟨mo z, true, 75, 8⟩ = C9 at *
  have hs0 : StL ((C9.no fun y => y ∈ b :: bs).off H) bd xs := by
    refine s2.le fun y k hy => ?_
    by_cases hm : y ∈ bs
    · rw [no_in (B := fun x => x ∈ bs) hm] at hy; cases hy
    · rw [no_out (B := fun x => x ∈ bs) hm] at hy
      obtain ⟨g1, g2⟩ := off_some hy
      have yb : ¬ y = b := by rintro rfl; exact r1.ne g1
      obtain ⟨k3, g3, g4⟩ := l26 y k g2
      refine ⟨k3, ?_, g4⟩
      rw [off_at (d1.nov g1), no_out]
      · exact g3
      · simp only [List.mem_cons]; exact fun hh => hh.elim yb hm
  generalize hHp : (C9.no fun y => y ∈ b :: bs) = Hp at hs0
  have kP : ∀ {y : Nat} {k : Blk}, Kn C9 y k → ¬ y = b → ¬ y ∈ bs → Kn Hp y k := fun hk e1 e2 => by
    rw [← hHp]
    exact hk.chg Chg.no (by simp only [List.mem_cons]; exact fun hh => hh.elim e1 e2)
  have hs : StL (Hp.off H) (bd ++ [moS]) (xs ++ mo z) := hs0.app (StL.one (mo_v (kn_off hzH (kP kz9 hzb hzs))))
  have s : LS S b H Hp (.slice A1 bd.length c1) bd.length xs bs C9 p2 := by
    refine ⟨?_, r9, d9, w9, n2.le' d1, ?_, ?_, hr.fl⟩
    · rw [← hHp]; exact no_le _ _
    · intro y hy
      rw [← hHp, no_in]
      simp [hy]
    · rw [← hHp, no_in]
      simp
  have k9P := kP k9 x9b x9s
  clear hHp kP
  have c90 := k9P.cell (j := 0) rfl
  have c91 := k9P.cell (j := 1) rfl
  have c92 := k9P.cell (j := 2) rfl
  have c93 := k9P.cell (j := 3) rfl
  have c94 := k9P.cell (j := 4) rfl
  have c95 := k9P.cell (j := 5) rfl
  have c96 := k9P.cell (j := 6) rfl
  have c97 := k9P.cell (j := 7) rfl
  have hbnd : bd.length ≤ 100 := by omega
  clear s2 r1 r2 w2 w4 w5 w9 r9 d9 kz kz9 k9 hs0 l3 l4 l5 l6 l26 d2 d2' d4' n2
  refine draw_at Hp s.lp ?_
  repeat' (first | simp -implicitDefEqProofs only [zG1,zG2,zG3,zG4,zG5,zG6,zG7,eq_self,resV,rval,X.val,binv,fillL,setR,↓reduceIte,Nat.reduceEqDiff,Nat.reduceAdd,Nat.reduceMul,Nat.reduceLeDiff,Nat.reduceLT,Nat.reduceSub,reduceCtorEq,zGq, c90, c91, c92, c93, c94, c95, c96, c97, adr_lit, Nat.zero_add])
  refine ⟨?_, ?_, ?_⟩
  · refine s.leaf fun A25 c25 C25 l s => ?_
    repeat' (first | simp -implicitDefEqProofs only [zG1,zG2,zG3,zG4,zG5,zG6,zG7,eq_self,resV,rval,X.val,binv,fillL,setR,↓reduceIte,Nat.reduceEqDiff,Nat.reduceAdd,Nat.reduceMul,Nat.reduceLeDiff,Nat.reduceLT,Nat.reduceSub,reduceCtorEq,zGq, s.lp])
    refine ⟨?_, ?_, ?_⟩
    · refine pickK_ok _ _ s.r 3 (by omega) (by omega) (by decide) (fun u C27 r27 d27 hu0 hu1 => ?_)
      have s := s.pick r27 d27
      have w3 := pl1 hu0 hu1
      repeat' (first | simp -implicitDefEqProofs only [zG1,zG2,zG3,zG4,zG5,zG6,zG7,eq_self,resV,rval,X.val,binv,fillL,setR,↓reduceIte,Nat.reduceEqDiff,Nat.reduceAdd,Nat.reduceMul,Nat.reduceLeDiff,Nat.reduceLT,Nat.reduceSub,reduceCtorEq,zGq, s.lp, w3])
      refine ⟨?_, ?_, ?_⟩
      · refine s.leaf fun A29 c29 C29 l s => ?_
        repeat' (first | simp -implicitDefEqProofs only [zG1,zG2,zG3,zG4,zG5,zG6,zG7,eq_self,resV,rval,X.val,binv,fillL,setR,↓reduceIte,Nat.reduceEqDiff,Nat.reduceAdd,Nat.reduceMul,Nat.reduceLeDiff,Nat.reduceLT,Nat.reduceSub,reduceCtorEq,zGq, s.lp])
        refine ⟨?_, ?_, ?_⟩
        · refine l4Both_ok _ _ _ 5 (.mk 13 3 []) (.mk 0 (1 + u) []) A25 A29 c25 c29 (fun z30 C30 t30 cc30 l hz30 k30 => ?_)
          have h30 := s.d.nov hz30
          have o30 := s.off hz30
          have s := s.le l
          repeat' (first | simp -implicitDefEqProofs only [zG1,zG2,zG3,zG4,zG5,zG6,zG7,eq_self,resV,rval,X.val,binv,fillL,setR,↓reduceIte,Nat.reduceEqDiff,Nat.reduceAdd,Nat.reduceMul,Nat.reduceLeDiff,Nat.reduceLT,Nat.reduceSub,reduceCtorEq,zGq, s.lp])
          refine ⟨?_, ?_⟩
          · refine s.lit fun y33 C33 n33 l s k33 => ?_
            have k30 := k30.trans l
            repeat' (first | simp -implicitDefEqProofs only [zG1,zG2,zG3,zG4,zG5,zG6,zG7,eq_self,resV,rval,X.val,binv,fillL,setR,↓reduceIte,Nat.reduceEqDiff,Nat.reduceAdd,Nat.reduceMul,Nat.reduceLeDiff,Nat.reduceLT,Nat.reduceSub,reduceCtorEq,zGq, s.lp])
            refine ⟨?_, ?_⟩
            · refine s.more k33 (by omega) rfl fun A34 c34 C34 bs34 hc hn s => ?_
              have k30 := k30.chg hc o30
              repeat' (first | simp -implicitDefEqProofs only [zG1,zG2,zG3,zG4,zG5,zG6,zG7,eq_self,resV,rval,X.val,binv,fillL,setR,↓reduceIte,Nat.reduceEqDiff,Nat.reduceAdd,Nat.reduceMul,Nat.reduceLeDiff,Nat.reduceLT,Nat.reduceSub,reduceCtorEq,zGq, s.lp])
              refine s.new fun y10 C10 hy10 h10 p10 o10 n10 l s k10 => ?_
              have x30 : ¬ z30 = y10 := fun e => k30.ne (e ▸ hy10)
              have k30 := k30.trans l
              repeat' (first | simp -implicitDefEqProofs only [zG1,zG2,zG3,zG4,zG5,zG6,zG7,eq_self,resV,rval,X.val,binv,fillL,setR,↓reduceIte,Nat.reduceEqDiff,Nat.reduceAdd,Nat.reduceMul,Nat.reduceLeDiff,Nat.reduceLT,Nat.reduceSub,reduceCtorEq,zGq, s.lp])
              refine s.put k10 h10 p10 o10 (by simp [ocI, ocS]) fun C40 hc s cs => ?_
              have k30 := k30.chg hc (by simpa using x30)
              repeat' (first | simp -implicitDefEqProofs only [zG1,zG2,zG3,zG4,zG5,zG6,zG7,eq_self,resV,rval,X.val,binv,fillL,setR,↓reduceIte,Nat.reduceEqDiff,Nat.reduceAdd,Nat.reduceMul,Nat.reduceLeDiff,Nat.reduceLT,Nat.reduceSub,reduceCtorEq,zGq, s.lp, cs] | (with_reducible refine draw_at C40 (.refl _) ?_) | (with_reducible refine l4Leaf_ok _ _ _ _ _ (fun A37 c37 C37 l37 => ?_)) | (with_reducible refine ⟨l37, ?_⟩) | (with_reducible refine rows_intro (fun y hy => ?_)))
              exact ⟨l37.trans ((AHeap.le.refl C37).fresh hy _), ret_same (finL (A37 := A37) (c37 := c37) h (s.le l37) hs (k30.trans l37) h30 hbd (by omega) ⟨hu0, by omega⟩ (by omega) (by omega) hy)⟩
            · refine s.new fun y10 C10 hy10 h10 p10 o10 n10 l s k10 => ?_
              have x30 : ¬ z30 = y10 := fun e => k30.ne (e ▸ hy10)
              have k33 := k33.trans l
              have k30 := k30.trans l
              repeat' (first | simp -implicitDefEqProofs only [zG1,zG2,zG3,zG4,zG5,zG6,zG7,eq_self,resV,rval,X.val,binv,fillL,setR,↓reduceIte,Nat.reduceEqDiff,Nat.reduceAdd,Nat.reduceMul,Nat.reduceLeDiff,Nat.reduceLT,Nat.reduceSub,reduceCtorEq,zGq, s.lp])
              refine s.more k33 (by omega) rfl fun A34 c34 C34 bs34 hc hn s => ?_
              have o34 := off_app k10 o10 hn
              have k10 := k10.chg hc o10
              have o10 := o34
              have k30 := k30.chg hc o30
              repeat' (first | simp -implicitDefEqProofs only [zG1,zG2,zG3,zG4,zG5,zG6,zG7,eq_self,resV,rval,X.val,binv,fillL,setR,↓reduceIte,Nat.reduceEqDiff,Nat.reduceAdd,Nat.reduceMul,Nat.reduceLeDiff,Nat.reduceLT,Nat.reduceSub,reduceCtorEq,zGq, s.lp])
              refine s.put k10 h10 p10 o10 (by simp [ocI, ocS]) fun C40 hc s cs => ?_
              have k30 := k30.chg hc (by simpa using x30)
              repeat' (first | simp -implicitDefEqProofs only [zG1,zG2,zG3,zG4,zG5,zG6,zG7,eq_self,resV,rval,X.val,binv,fillL,setR,↓reduceIte,Nat.reduceEqDiff,Nat.reduceAdd,Nat.reduceMul,Nat.reduceLeDiff,Nat.reduceLT,Nat.reduceSub,reduceCtorEq,zGq, s.lp, cs] | (with_reducible refine draw_at C40 (.refl _) ?_) | (with_reducible refine l4Leaf_ok _ _ _ _ _ (fun A37 c37 C37 l37 => ?_)) | (with_reducible refine ⟨l37, ?_⟩) | (with_reducible refine rows_intro (fun y hy => ?_)))
              exact ⟨l37.trans ((AHeap.le.refl C37).fresh hy _), ret_same (finL (A37 := A37) (c37 := c37) h (s.le l37) hs (k30.trans l37) h30 hbd (by omega) ⟨hu0, by omega⟩ (by omega) (by omega) hy)⟩
          · refine s.new fun y10 C10 hy10 h10 p10 o10 n10 l s k10 => ?_
            have x30 : ¬ z30 = y10 := fun e => k30.ne (e ▸ hy10)
            have k30 := k30.trans l
            repeat' (first | simp -implicitDefEqProofs only [zG1,zG2,zG3,zG4,zG5,zG6,zG7,eq_self,resV,rval,X.val,binv,fillL,setR,↓reduceIte,Nat.reduceEqDiff,Nat.reduceAdd,Nat.reduceMul,Nat.reduceLeDiff,Nat.reduceLT,Nat.reduceSub,reduceCtorEq,zGq, s.lp])
            refine s.lit fun y33 C33 n33 l s k33 => ?_
            have k10 := k10.trans l
            have k30 := k30.trans l
            repeat' (first | simp -implicitDefEqProofs only [zG1,zG2,zG3,zG4,zG5,zG6,zG7,eq_self,resV,rval,X.val,binv,fillL,setR,↓reduceIte,Nat.reduceEqDiff,Nat.reduceAdd,Nat.reduceMul,Nat.reduceLeDiff,Nat.reduceLT,Nat.reduceSub,reduceCtorEq,zGq, s.lp])
            refine s.more k33 (by omega) rfl fun A34 c34 C34 bs34 hc hn s => ?_
            have o34 := off_app k10 o10 hn
            have k10 := k10.chg hc o10
            have o10 := o34
            have k30 := k30.chg hc o30
            repeat' (first | simp -implicitDefEqProofs only [zG1,zG2,zG3,zG4,zG5,zG6,zG7,eq_self,resV,rval,X.val,binv,fillL,setR,↓reduceIte,Nat.reduceEqDiff,Nat.reduceAdd,Nat.reduceMul,Nat.reduceLeDiff,Nat.reduceLT,Nat.reduceSub,reduceCtorEq,zGq, s.lp])
            refine s.put k10 h10 p10 o10 (by simp [ocI, ocS]) fun C40 hc s cs => ?_
            have k30 := k30.chg hc (by simpa using x30)
            repeat' (first | simp -implicitDefEqProofs only [zG1,zG2,zG3,zG4,zG5,zG6,zG7,eq_self,resV,rval,X.val,binv,fillL,setR,↓reduceIte,Nat.reduceEqDiff,Nat.reduceAdd,Nat.reduceMul,Nat.reduceLeDiff,Nat.reduceLT,Nat.reduceSub,reduceCtorEq,zGq, s.lp, cs] | (with_reducible refine draw_at C40 (.refl _) ?_) | (with_reducible refine l4Leaf_ok _ _ _ _ _ (fun A37 c37 C37 l37 => ?_)) | (with_reducible refine ⟨l37, ?_⟩) | (with_reducible refine rows_intro (fun y hy => ?_)))
            exact ⟨l37.trans ((AHeap.le.refl C37).fresh hy _), ret_same (finL (A37 := A37) (c37 := c37) h (s.le l37) hs (k30.trans l37) h30 hbd (by omega) ⟨hu0, by omega⟩ (by omega) (by omega) hy)⟩
        · refine s.lit fun y33 C33 n33 l s k33 => ?_
          repeat' (first | simp -implicitDefEqProofs only [zG1,zG2,zG3,zG4,zG5,zG6,zG7,eq_self,resV,rval,X.val,binv,fillL,setR,↓reduceIte,Nat.reduceEqDiff,Nat.reduceAdd,Nat.reduceMul,Nat.reduceLeDiff,Nat.reduceLT,Nat.reduceSub,reduceCtorEq,zGq, s.lp])
          refine ⟨?_, ?_⟩
          · refine l4Both_ok _ _ _ 5 (.mk 13 3 []) (.mk 0 (1 + u) []) A25 A29 c25 c29 (fun z30 C30 t30 cc30 l hz30 k30 => ?_)
            have h30 := s.d.nov hz30
            have o30 := s.off hz30
            have s := s.le l
            have k33 := k33.trans l
            repeat' (first | simp -implicitDefEqProofs only [zG1,zG2,zG3,zG4,zG5,zG6,zG7,eq_self,resV,rval,X.val,binv,fillL,setR,↓reduceIte,Nat.reduceEqDiff,Nat.reduceAdd,Nat.reduceMul,Nat.reduceLeDiff,Nat.reduceLT,Nat.reduceSub,reduceCtorEq,zGq, s.lp])
            refine ⟨?_, ?_⟩
            · refine s.more k33 (by omega) rfl fun A34 c34 C34 bs34 hc hn s => ?_
              have k30 := k30.chg hc o30
              repeat' (first | simp -implicitDefEqProofs only [zG1,zG2,zG3,zG4,zG5,zG6,zG7,eq_self,resV,rval,X.val,binv,fillL,setR,↓reduceIte,Nat.reduceEqDiff,Nat.reduceAdd,Nat.reduceMul,Nat.reduceLeDiff,Nat.reduceLT,Nat.reduceSub,reduceCtorEq,zGq, s.lp])
              refine s.new fun y10 C10 hy10 h10 p10 o10 n10 l s k10 => ?_
              have x30 : ¬ z30 = y10 := fun e => k30.ne (e ▸ hy10)
              have k30 := k30.trans l
              repeat' (first | simp -implicitDefEqProofs only [zG1,zG2,zG3,zG4,zG5,zG6,zG7,eq_self,resV,rval,X.val,binv,fillL,setR,↓reduceIte,Nat.reduceEqDiff,Nat.reduceAdd,Nat.reduceMul,Nat.reduceLeDiff,Nat.reduceLT,Nat.reduceSub,reduceCtorEq,zGq, s.lp])
              refine s.put k10 h10 p10 o10 (by simp [ocI, ocS]) fun C40 hc s cs => ?_
              have k30 := k30.chg hc (by simpa using x30)
              repeat' (first | simp -implicitDefEqProofs only [zG1,zG2,zG3,zG4,zG5,zG6,zG7,eq_self,resV,rval,X.val,binv,fillL,setR,↓reduceIte,Nat.reduceEqDiff,Nat.reduceAdd,Nat.reduceMul,Nat.reduceLeDiff,Nat.reduceLT,Nat.reduceSub,reduceCtorEq,zGq, s.lp, cs] | (with_reducible refine draw_at C40 (.refl _) ?_) | (with_reducible refine l4Leaf_ok _ _ _ _ _ (fun A37 c37 C37 l37 => ?_)) | (with_reducible refine ⟨l37, ?_⟩) | (with_reducible refine rows_intro (fun y hy => ?_)))
              exact ⟨l37.trans ((AHeap.le.refl C37).fresh hy _), ret_same (finL (A37 := A37) (c37 := c37) h (s.le l37) hs (k30.trans l37) h30 hbd (by omega) ⟨hu0, by omega⟩ (by omega) (by omega) hy)⟩
            · refine s.new fun y10 C10 hy10 h10 p10 o10 n10 l s k10 => ?_
              have x30 : ¬ z30 = y10 := fun e => k30.ne (e ▸ hy10)
              have k33 := k33.trans l
              have k30 := k30.trans l
              repeat' (first | simp -implicitDefEqProofs only [zG1,zG2,zG3,zG4,zG5,zG6,zG7,eq_self,resV,rval,X.val,binv,fillL,setR,↓reduceIte,Nat.reduceEqDiff,Nat.reduceAdd,Nat.reduceMul,Nat.reduceLeDiff,Nat.reduceLT,Nat.reduceSub,reduceCtorEq,zGq, s.lp])
              refine s.more k33 (by omega) rfl fun A34 c34 C34 bs34 hc hn s => ?_
              have o34 := off_app k10 o10 hn
              have k10 := k10.chg hc o10
              have o10 := o34
              have k30 := k30.chg hc o30
              repeat' (first | simp -implicitDefEqProofs only [zG1,zG2,zG3,zG4,zG5,zG6,zG7,eq_self,resV,rval,X.val,binv,fillL,setR,↓reduceIte,Nat.reduceEqDiff,Nat.reduceAdd,Nat.reduceMul,Nat.reduceLeDiff,Nat.reduceLT,Nat.reduceSub,reduceCtorEq,zGq, s.lp])
              refine s.put k10 h10 p10 o10 (by simp [ocI, ocS]) fun C40 hc s cs => ?_
              have k30 := k30.chg hc (by simpa using x30)
              repeat' (first | simp -implicitDefEqProofs only [zG1,zG2,zG3,zG4,zG5,zG6,zG7,eq_self,resV,rval,X.val,binv,fillL,setR,↓reduceIte,Nat.reduceEqDiff,Nat.reduceAdd,Nat.reduceMul,Nat.reduceLeDiff,Nat.reduceLT,Nat.reduceSub,reduceCtorEq,zGq, s.lp, cs] | (with_reducible refine draw_at C40 (.refl _) ?_) | (with_reducible refine l4Leaf_ok _ _ _ _ _ (fun A37 c37 C37 l37 => ?_)) | (with_reducible refine ⟨l37, ?_⟩) | (with_reducible refine rows_intro (fun y hy => ?_)))
              exact ⟨l37.trans ((AHeap.le.refl C37).fresh hy _), ret_same (finL (A37 := A37) (c37 := c37) h (s.le l37) hs (k30.trans l37) h30 hbd (by omega) ⟨hu0, by omega⟩ (by omega) (by omega) hy)⟩
          · refine s.new fun y10 C10 hy10 h10 p10 o10 n10 l s k10 => ?_
            have k33 := k33.trans l
            repeat' (first | simp -implicitDefEqProofs only [zG1,zG2,zG3,zG4,zG5,zG6,zG7,eq_self,resV,rval,X.val,binv,fillL,setR,↓reduceIte,Nat.reduceEqDiff,Nat.reduceAdd,Nat.reduceMul,Nat.reduceLeDiff,Nat.reduceLT,Nat.reduceSub,reduceCtorEq,zGq, s.lp])
            refine l4Both_ok _ _ _ 5 (.mk 13 3 []) (.mk 0 (1 + u) []) A25 A29 c25 c29 (fun z30 C30 t30 cc30 l hz30 k30 => ?_)
            have h30 := s.d.nov hz30
            have o30 := s.off hz30
            have s := s.le l
            have x30 : ¬ z30 = y10 := fun e => k10.ne (e ▸ hz30)
            have k33 := k33.trans l
            have k10 := k10.trans l
            repeat' (first | simp -implicitDefEqProofs only [zG1,zG2,zG3,zG4,zG5,zG6,zG7,eq_self,resV,rval,X.val,binv,fillL,setR,↓reduceIte,Nat.reduceEqDiff,Nat.reduceAdd,Nat.reduceMul,Nat.reduceLeDiff,Nat.reduceLT,Nat.reduceSub,reduceCtorEq,zGq, s.lp])
            refine s.more k33 (by omega) rfl fun A34 c34 C34 bs34 hc hn s => ?_
            have o34 := off_app k10 o10 hn
            have k10 := k10.chg hc o10
            have o10 := o34
            have k30 := k30.chg hc o30
            repeat' (first | simp -implicitDefEqProofs only [zG1,zG2,zG3,zG4,zG5,zG6,zG7,eq_self,resV,rval,X.val,binv,fillL,setR,↓reduceIte,Nat.reduceEqDiff,Nat.reduceAdd,Nat.reduceMul,Nat.reduceLeDiff,Nat.reduceLT,Nat.reduceSub,reduceCtorEq,zGq, s.lp])
            refine s.put k10 h10 p10 o10 (by simp [ocI, ocS]) fun C40 hc s cs => ?_
            have k30 := k30.chg hc (by simpa using x30)
            repeat' (first | simp -implicitDefEqProofs only [zG1,zG2,zG3,zG4,zG5,zG6,zG7,eq_self,resV,rval,X.val,binv,fillL,setR,↓reduceIte,Nat.reduceEqDiff,Nat.reduceAdd,Nat.reduceMul,Nat.reduceLeDiff,Nat.reduceLT,Nat.reduceSub,reduceCtorEq,zGq, s.lp, cs] | (with_reducible refine draw_at C40 (.refl _) ?_) | (with_reducible refine l4Leaf_ok _ _ _ _ _ (fun A37 c37 C37 l37 => ?_)) | (with_reducible refine ⟨l37, ?_⟩) | (with_reducible refine rows_intro (fun y hy => ?_)))
            exact ⟨l37.trans ((AHeap.le.refl C37).fresh hy _), ret_same (finL (A37 := A37) (c37 := c37) h (s.le l37) hs (k30.trans l37) h30 hbd (by omega) ⟨hu0, by omega⟩ (by omega) (by omega) hy)⟩
        · refine s.new fun y10 C10 hy10 h10 p10 o10 n10 l s k10 => ?_
          repeat' (first | simp -implicitDefEqProofs only [zG1,zG2,zG3,zG4,zG5,zG6,zG7,eq_self,resV,rval,X.val,binv,fillL,setR,↓reduceIte,Nat.reduceEqDiff,Nat.reduceAdd,Nat.reduceMul,Nat.reduceLeDiff,Nat.reduceLT,Nat.reduceSub,reduceCtorEq,zGq, s.lp])
          refine ⟨?_, ?_⟩
          · refine l4Both_ok _ _ _ 5 (.mk 13 3 []) (.mk 0 (1 + u) []) A25 A29 c25 c29 (fun z30 C30 t30 cc30 l hz30 k30 => ?_)
            have h30 := s.d.nov hz30
            have o30 := s.off hz30
            have s := s.le l
            have x30 : ¬ z30 = y10 := fun e => k10.ne (e ▸ hz30)
            have k10 := k10.trans l
            repeat' (first | simp -implicitDefEqProofs only [zG1,zG2,zG3,zG4,zG5,zG6,zG7,eq_self,resV,rval,X.val,binv,fillL,setR,↓reduceIte,Nat.reduceEqDiff,Nat.reduceAdd,Nat.reduceMul,Nat.reduceLeDiff,Nat.reduceLT,Nat.reduceSub,reduceCtorEq,zGq, s.lp])
            refine s.lit fun y33 C33 n33 l s k33 => ?_
            have k10 := k10.trans l
            have k30 := k30.trans l
            repeat' (first | simp -implicitDefEqProofs only [zG1,zG2,zG3,zG4,zG5,zG6,zG7,eq_self,resV,rval,X.val,binv,fillL,setR,↓reduceIte,Nat.reduceEqDiff,Nat.reduceAdd,Nat.reduceMul,Nat.reduceLeDiff,Nat.reduceLT,Nat.reduceSub,reduceCtorEq,zGq, s.lp])
            refine s.more k33 (by omega) rfl fun A34 c34 C34 bs34 hc hn s => ?_
            have o34 := off_app k10 o10 hn
            have k10 := k10.chg hc o10
            have o10 := o34
            have k30 := k30.chg hc o30
            repeat' (first | simp -implicitDefEqProofs only [zG1,zG2,zG3,zG4,zG5,zG6,zG7,eq_self,resV,rval,X.val,binv,fillL,setR,↓reduceIte,Nat.reduceEqDiff,Nat.reduceAdd,Nat.reduceMul,Nat.reduceLeDiff,Nat.reduceLT,Nat.reduceSub,reduceCtorEq,zGq, s.lp])
            refine s.put k10 h10 p10 o10 (by simp [ocI, ocS]) fun C40 hc s cs => ?_
            have k30 := k30.chg hc (by simpa using x30)
            repeat' (first | simp -implicitDefEqProofs only [zG1,zG2,zG3,zG4,zG5,zG6,zG7,eq_self,resV,rval,X.val,binv,fillL,setR,↓reduceIte,Nat.reduceEqDiff,Nat.reduceAdd,Nat.reduceMul,Nat.reduceLeDiff,Nat.reduceLT,Nat.reduceSub,reduceCtorEq,zGq, s.lp, cs] | (with_reducible refine draw_at C40 (.refl _) ?_) | (with_reducible refine l4Leaf_ok _ _ _ _ _ (fun A37 c37 C37 l37 => ?_)) | (with_reducible refine ⟨l37, ?_⟩) | (with_reducible refine rows_intro (fun y hy => ?_)))
            exact ⟨l37.trans ((AHeap.le.refl C37).fresh hy _), ret_same (finL (A37 := A37) (c37 := c37) h (s.le l37) hs (k30.trans l37) h30 hbd (by omega) ⟨hu0, by omega⟩ (by omega) (by omega) hy)⟩
          · refine s.lit fun y33 C33 n33 l s k33 => ?_
            have k10 := k10.trans l
            repeat' (first | simp -implicitDefEqProofs only [zG1,zG2,zG3,zG4,zG5,zG6,zG7,eq_self,resV,rval,X.val,binv,fillL,setR,↓reduceIte,Nat.reduceEqDiff,Nat.reduceAdd,Nat.reduceMul,Nat.reduceLeDiff,Nat.reduceLT,Nat.reduceSub,reduceCtorEq,zGq, s.lp])
            refine l4Both_ok _ _ _ 5 (.mk 13 3 []) (.mk 0 (1 + u) []) A25 A29 c25 c29 (fun z30 C30 t30 cc30 l hz30 k30 => ?_)
            have h30 := s.d.nov hz30
            have o30 := s.off hz30
            have s := s.le l
            have x30 : ¬ z30 = y10 := fun e => k10.ne (e ▸ hz30)
            have k33 := k33.trans l
            have k10 := k10.trans l
            repeat' (first | simp -implicitDefEqProofs only [zG1,zG2,zG3,zG4,zG5,zG6,zG7,eq_self,resV,rval,X.val,binv,fillL,setR,↓reduceIte,Nat.reduceEqDiff,Nat.reduceAdd,Nat.reduceMul,Nat.reduceLeDiff,Nat.reduceLT,Nat.reduceSub,reduceCtorEq,zGq, s.lp])
            refine s.more k33 (by omega) rfl fun A34 c34 C34 bs34 hc hn s => ?_
            have o34 := off_app k10 o10 hn
            have k10 := k10.chg hc o10
            have o10 := o34
            have k30 := k30.chg hc o30
            repeat' (first | simp -implicitDefEqProofs only [zG1,zG2,zG3,zG4,zG5,zG6,zG7,eq_self,resV,rval,X.val,binv,fillL,setR,↓reduceIte,Nat.reduceEqDiff,Nat.reduceAdd,Nat.reduceMul,Nat.reduceLeDiff,Nat.reduceLT,Nat.reduceSub,reduceCtorEq,zGq, s.lp])
            refine s.put k10 h10 p10 o10 (by simp [ocI, ocS]) fun C40 hc s cs => ?_
            have k30 := k30.chg hc (by simpa using x30)
            repeat' (first | simp -implicitDefEqProofs only [zG1,zG2,zG3,zG4,zG5,zG6,zG7,eq_self,resV,rval,X.val,binv,fillL,setR,↓reduceIte,Nat.reduceEqDiff,Nat.reduceAdd,Nat.reduceMul,Nat.reduceLeDiff,Nat.reduceLT,Nat.reduceSub,reduceCtorEq,zGq, s.lp, cs] | (with_reducible refine draw_at C40 (.refl _) ?_) | (with_reducible refine l4Leaf_ok _ _ _ _ _ (fun A37 c37 C37 l37 => ?_)) | (with_reducible refine ⟨l37, ?_⟩) | (with_reducible refine rows_intro (fun y hy => ?_)))
            exact ⟨l37.trans ((AHeap.le.refl C37).fresh hy _), ret_same (finL (A37 := A37) (c37 := c37) h (s.le l37) hs (k30.trans l37) h30 hbd (by omega) ⟨hu0, by omega⟩ (by omega) (by omega) hy)⟩
      · refine s.lit fun y33 C33 n33 l s k33 => ?_
        repeat' (first | simp -implicitDefEqProofs only [zG1,zG2,zG3,zG4,zG5,zG6,zG7,eq_self,resV,rval,X.val,binv,fillL,setR,↓reduceIte,Nat.reduceEqDiff,Nat.reduceAdd,Nat.reduceMul,Nat.reduceLeDiff,Nat.reduceLT,Nat.reduceSub,reduceCtorEq,zGq, s.lp])
        refine ⟨?_, ?_⟩
        · refine s.leaf fun A29 c29 C29 l s => ?_
          have k33 := k33.trans l
          repeat' (first | simp -implicitDefEqProofs only [zG1,zG2,zG3,zG4,zG5,zG6,zG7,eq_self,resV,rval,X.val,binv,fillL,setR,↓reduceIte,Nat.reduceEqDiff,Nat.reduceAdd,Nat.reduceMul,Nat.reduceLeDiff,Nat.reduceLT,Nat.reduceSub,reduceCtorEq,zGq, s.lp])
          refine ⟨?_, ?_⟩
          · refine l4Both_ok _ _ _ 5 (.mk 13 3 []) (.mk 0 (1 + u) []) A25 A29 c25 c29 (fun z30 C30 t30 cc30 l hz30 k30 => ?_)
            have h30 := s.d.nov hz30
            have o30 := s.off hz30
            have s := s.le l
            have k33 := k33.trans l
            repeat' (first | simp -implicitDefEqProofs only [zG1,zG2,zG3,zG4,zG5,zG6,zG7,eq_self,resV,rval,X.val,binv,fillL,setR,↓reduceIte,Nat.reduceEqDiff,Nat.reduceAdd,Nat.reduceMul,Nat.reduceLeDiff,Nat.reduceLT,Nat.reduceSub,reduceCtorEq,zGq, s.lp])
            refine ⟨?_, ?_⟩
            · refine s.more k33 (by omega) rfl fun A34 c34 C34 bs34 hc hn s => ?_
              have k30 := k30.chg hc o30
              repeat' (first | simp -implicitDefEqProofs only [zG1,zG2,zG3,zG4,zG5,zG6,zG7,eq_self,resV,rval,X.val,binv,fillL,setR,↓reduceIte,Nat.reduceEqDiff,Nat.reduceAdd,Nat.reduceMul,Nat.reduceLeDiff,Nat.reduceLT,Nat.reduceSub,reduceCtorEq,zGq, s.lp])
              refine s.new fun y10 C10 hy10 h10 p10 o10 n10 l s k10 => ?_
              have x30 : ¬ z30 = y10 := fun e => k30.ne (e ▸ hy10)
              have k30 := k30.trans l
              repeat' (first | simp -implicitDefEqProofs only [zG1,zG2,zG3,zG4,zG5,zG6,zG7,eq_self,resV,rval,X.val,binv,fillL,setR,↓reduceIte,Nat.reduceEqDiff,Nat.reduceAdd,Nat.reduceMul,Nat.reduceLeDiff,Nat.reduceLT,Nat.reduceSub,reduceCtorEq,zGq, s.lp])
              refine s.put k10 h10 p10 o10 (by simp [ocI, ocS]) fun C40 hc s cs => ?_
              have k30 := k30.chg hc (by simpa using x30)
              repeat' (first | simp -implicitDefEqProofs only [zG1,zG2,zG3,zG4,zG5,zG6,zG7,eq_self,resV,rval,X.val,binv,fillL,setR,↓reduceIte,Nat.reduceEqDiff,Nat.reduceAdd,Nat.reduceMul,Nat.reduceLeDiff,Nat.reduceLT,Nat.reduceSub,reduceCtorEq,zGq, s.lp, cs] | (with_reducible refine draw_at C40 (.refl _) ?_) | (with_reducible refine l4Leaf_ok _ _ _ _ _ (fun A37 c37 C37 l37 => ?_)) | (with_reducible refine ⟨l37, ?_⟩) | (with_reducible refine rows_intro (fun y hy => ?_)))
              exact ⟨l37.trans ((AHeap.le.refl C37).fresh hy _), ret_same (finL (A37 := A37) (c37 := c37) h (s.le l37) hs (k30.trans l37) h30 hbd (by omega) ⟨hu0, by omega⟩ (by omega) (by omega) hy)⟩
            · refine s.new fun y10 C10 hy10 h10 p10 o10 n10 l s k10 => ?_
              have x30 : ¬ z30 = y10 := fun e => k30.ne (e ▸ hy10)
              have k33 := k33.trans l
              have k30 := k30.trans l
              repeat' (first | simp -implicitDefEqProofs only [zG1,zG2,zG3,zG4,zG5,zG6,zG7,eq_self,resV,rval,X.val,binv,fillL,setR,↓reduceIte,Nat.reduceEqDiff,Nat.reduceAdd,Nat.reduceMul,Nat.reduceLeDiff,Nat.reduceLT,Nat.reduceSub,reduceCtorEq,zGq, s.lp])
              refine s.more k33 (by omega) rfl fun A34 c34 C34 bs34 hc hn s => ?_
              have o34 := off_app k10 o10 hn
              have k10 := k10.chg hc o10
              have o10 := o34
              have k30 := k30.chg hc o30
              repeat' (first | simp -implicitDefEqProofs only [zG1,zG2,zG3,zG4,zG5,zG6,zG7,eq_self,resV,rval,X.val,binv,fillL,setR,↓reduceIte,Nat.reduceEqDiff,Nat.reduceAdd,Nat.reduceMul,Nat.reduceLeDiff,Nat.reduceLT,Nat.reduceSub,reduceCtorEq,zGq, s.lp])
              refine s.put k10 h10 p10 o10 (by simp [ocI, ocS]) fun C40 hc s cs => ?_
              have k30 := k30.chg hc (by simpa using x30)
              repeat' (first | simp -implicitDefEqProofs only [zG1,zG2,zG3,zG4,zG5,zG6,zG7,eq_self,resV,rval,X.val,binv,fillL,setR,↓reduceIte,Nat.reduceEqDiff,Nat.reduceAdd,Nat.reduceMul,Nat.reduceLeDiff,Nat.reduceLT,Nat.reduceSub,reduceCtorEq,zGq, s.lp, cs] | (with_reducible refine draw_at C40 (.refl _) ?_) | (with_reducible refine l4Leaf_ok _ _ _ _ _ (fun A37 c37 C37 l37 => ?_)) | (with_reducible refine ⟨l37, ?_⟩) | (with_reducible refine rows_intro (fun y hy => ?_)))
              exact ⟨l37.trans ((AHeap.le.refl C37).fresh hy _), ret_same (finL (A37 := A37) (c37 := c37) h (s.le l37) hs (k30.trans l37) h30 hbd (by omega) ⟨hu0, by omega⟩ (by omega) (by omega) hy)⟩
          · refine s.new fun y10 C10 hy10 h10 p10 o10 n10 l s k10 => ?_
            have k33 := k33.trans l
            repeat' (first | simp -implicitDefEqProofs only [zG1,zG2,zG3,zG4,zG5,zG6,zG7,eq_self,resV,rval,X.val,binv,fillL,setR,↓reduceIte,Nat.reduceEqDiff,Nat.reduceAdd,Nat.reduceMul,Nat.reduceLeDiff,Nat.reduceLT,Nat.reduceSub,reduceCtorEq,zGq, s.lp])
            refine l4Both_ok _ _ _ 5 (.mk 13 3 []) (.mk 0 (1 + u) []) A25 A29 c25 c29 (fun z30 C30 t30 cc30 l hz30 k30 => ?_)
            have h30 := s.d.nov hz30
            have o30 := s.off hz30
            have s := s.le l
            have x30 : ¬ z30 = y10 := fun e => k10.ne (e ▸ hz30)
            have k33 := k33.trans l
            have k10 := k10.trans l
            repeat' (first | simp -implicitDefEqProofs only [zG1,zG2,zG3,zG4,zG5,zG6,zG7,eq_self,resV,rval,X.val,binv,fillL,setR,↓reduceIte,Nat.reduceEqDiff,Nat.reduceAdd,Nat.reduceMul,Nat.reduceLeDiff,Nat.reduceLT,Nat.reduceSub,reduceCtorEq,zGq, s.lp])
            refine s.more k33 (by omega) rfl fun A34 c34 C34 bs34 hc hn s => ?_
            have o34 := off_app k10 o10 hn
            have k10 := k10.chg hc o10
            have o10 := o34
            have k30 := k30.chg hc o30
            repeat' (first | simp -implicitDefEqProofs only [zG1,zG2,zG3,zG4,zG5,zG6,zG7,eq_self,resV,rval,X.val,binv,fillL,setR,↓reduceIte,Nat.reduceEqDiff,Nat.reduceAdd,Nat.reduceMul,Nat.reduceLeDiff,Nat.reduceLT,Nat.reduceSub,reduceCtorEq,zGq, s.lp])
            refine s.put k10 h10 p10 o10 (by simp [ocI, ocS]) fun C40 hc s cs => ?_
            have k30 := k30.chg hc (by simpa using x30)
            repeat' (first | simp -implicitDefEqProofs only [zG1,zG2,zG3,zG4,zG5,zG6,zG7,eq_self,resV,rval,X.val,binv,fillL,setR,↓reduceIte,Nat.reduceEqDiff,Nat.reduceAdd,Nat.reduceMul,Nat.reduceLeDiff,Nat.reduceLT,Nat.reduceSub,reduceCtorEq,zGq, s.lp, cs] | (with_reducible refine draw_at C40 (.refl _) ?_) | (with_reducible refine l4Leaf_ok _ _ _ _ _ (fun A37 c37 C37 l37 => ?_)) | (with_reducible refine ⟨l37, ?_⟩) | (with_reducible refine rows_intro (fun y hy => ?_)))
            exact ⟨l37.trans ((AHeap.le.refl C37).fresh hy _), ret_same (finL (A37 := A37) (c37 := c37) h (s.le l37) hs (k30.trans l37) h30 hbd (by omega) ⟨hu0, by omega⟩ (by omega) (by omega) hy)⟩
        · refine s.new fun y10 C10 hy10 h10 p10 o10 n10 l s k10 => ?_
          have k33 := k33.trans l
          repeat' (first | simp -implicitDefEqProofs only [zG1,zG2,zG3,zG4,zG5,zG6,zG7,eq_self,resV,rval,X.val,binv,fillL,setR,↓reduceIte,Nat.reduceEqDiff,Nat.reduceAdd,Nat.reduceMul,Nat.reduceLeDiff,Nat.reduceLT,Nat.reduceSub,reduceCtorEq,zGq, s.lp])
          refine s.leaf fun A29 c29 C29 l s => ?_
          have k33 := k33.trans l
          have k10 := k10.trans l
          repeat' (first | simp -implicitDefEqProofs only [zG1,zG2,zG3,zG4,zG5,zG6,zG7,eq_self,resV,rval,X.val,binv,fillL,setR,↓reduceIte,Nat.reduceEqDiff,Nat.reduceAdd,Nat.reduceMul,Nat.reduceLeDiff,Nat.reduceLT,Nat.reduceSub,reduceCtorEq,zGq, s.lp])
          refine l4Both_ok _ _ _ 5 (.mk 13 3 []) (.mk 0 (1 + u) []) A25 A29 c25 c29 (fun z30 C30 t30 cc30 l hz30 k30 => ?_)
          have h30 := s.d.nov hz30
          have o30 := s.off hz30
          have s := s.le l
          have x30 : ¬ z30 = y10 := fun e => k10.ne (e ▸ hz30)
          have k33 := k33.trans l
          have k10 := k10.trans l
          repeat' (first | simp -implicitDefEqProofs only [zG1,zG2,zG3,zG4,zG5,zG6,zG7,eq_self,resV,rval,X.val,binv,fillL,setR,↓reduceIte,Nat.reduceEqDiff,Nat.reduceAdd,Nat.reduceMul,Nat.reduceLeDiff,Nat.reduceLT,Nat.reduceSub,reduceCtorEq,zGq, s.lp])
          refine s.more k33 (by omega) rfl fun A34 c34 C34 bs34 hc hn s => ?_
          have o34 := off_app k10 o10 hn
          have k10 := k10.chg hc o10
          have o10 := o34
          have k30 := k30.chg hc o30
          repeat' (first | simp -implicitDefEqProofs only [zG1,zG2,zG3,zG4,zG5,zG6,zG7,eq_self,resV,rval,X.val,binv,fillL,setR,↓reduceIte,Nat.reduceEqDiff,Nat.reduceAdd,Nat.reduceMul,Nat.reduceLeDiff,Nat.reduceLT,Nat.reduceSub,reduceCtorEq,zGq, s.lp])
          refine s.put k10 h10 p10 o10 (by simp [ocI, ocS]) fun C40 hc s cs => ?_
          have k30 := k30.chg hc (by simpa using x30)
          repeat' (first | simp -implicitDefEqProofs only [zG1,zG2,zG3,zG4,zG5,zG6,zG7,eq_self,resV,rval,X.val,binv,fillL,setR,↓reduceIte,Nat.reduceEqDiff,Nat.reduceAdd,Nat.reduceMul,Nat.reduceLeDiff,Nat.reduceLT,Nat.reduceSub,reduceCtorEq,zGq, s.lp, cs] | (with_reducible refine draw_at C40 (.refl _) ?_) | (with_reducible refine l4Leaf_ok _ _ _ _ _ (fun A37 c37 C37 l37 => ?_)) | (with_reducible refine ⟨l37, ?_⟩) | (with_reducible refine rows_intro (fun y hy => ?_)))
          exact ⟨l37.trans ((AHeap.le.refl C37).fresh hy _), ret_same (finL (A37 := A37) (c37 := c37) h (s.le l37) hs (k30.trans l37) h30 hbd (by omega) ⟨hu0, by omega⟩ (by omega) (by omega) hy)⟩
      · refine s.new fun y10 C10 hy10 h10 p10 o10 n10 l s k10 => ?_
        repeat' (first | simp -implicitDefEqProofs only [zG1,zG2,zG3,zG4,zG5,zG6,zG7,eq_self,resV,rval,X.val,binv,fillL,setR,↓reduceIte,Nat.reduceEqDiff,Nat.reduceAdd,Nat.reduceMul,Nat.reduceLeDiff,Nat.reduceLT,Nat.reduceSub,reduceCtorEq,zGq, s.lp])
        refine ⟨?_, ?_⟩
        · refine s.leaf fun A29 c29 C29 l s => ?_
          have k10 := k10.trans l
          repeat' (first | simp -implicitDefEqProofs only [zG1,zG2,zG3,zG4,zG5,zG6,zG7,eq_self,resV,rval,X.val,binv,fillL,setR,↓reduceIte,Nat.reduceEqDiff,Nat.reduceAdd,Nat.reduceMul,Nat.reduceLeDiff,Nat.reduceLT,Nat.reduceSub,reduceCtorEq,zGq, s.lp])
          refine ⟨?_, ?_⟩
          · refine l4Both_ok _ _ _ 5 (.mk 13 3 []) (.mk 0 (1 + u) []) A25 A29 c25 c29 (fun z30 C30 t30 cc30 l hz30 k30 => ?_)
            have h30 := s.d.nov hz30
            have o30 := s.off hz30
            have s := s.le l
            have x30 : ¬ z30 = y10 := fun e => k10.ne (e ▸ hz30)
            have k10 := k10.trans l
            repeat' (first | simp -implicitDefEqProofs only [zG1,zG2,zG3,zG4,zG5,zG6,zG7,eq_self,resV,rval,X.val,binv,fillL,setR,↓reduceIte,Nat.reduceEqDiff,Nat.reduceAdd,Nat.reduceMul,Nat.reduceLeDiff,Nat.reduceLT,Nat.reduceSub,reduceCtorEq,zGq, s.lp])
            refine s.lit fun y33 C33 n33 l s k33 => ?_
            have k10 := k10.trans l
            have k30 := k30.trans l
            repeat' (first | simp -implicitDefEqProofs only [zG1,zG2,zG3,zG4,zG5,zG6,zG7,eq_self,resV,rval,X.val,binv,fillL,setR,↓reduceIte,Nat.reduceEqDiff,Nat.reduceAdd,Nat.reduceMul,Nat.reduceLeDiff,Nat.reduceLT,Nat.reduceSub,reduceCtorEq,zGq, s.lp])
            refine s.more k33 (by omega) rfl fun A34 c34 C34 bs34 hc hn s => ?_
            have o34 := off_app k10 o10 hn
            have k10 := k10.chg hc o10
            have o10 := o34
            have k30 := k30.chg hc o30
            repeat' (first | simp -implicitDefEqProofs only [zG1,zG2,zG3,zG4,zG5,zG6,zG7,eq_self,resV,rval,X.val,binv,fillL,setR,↓reduceIte,Nat.reduceEqDiff,Nat.reduceAdd,Nat.reduceMul,Nat.reduceLeDiff,Nat.reduceLT,Nat.reduceSub,reduceCtorEq,zGq, s.lp])
            refine s.put k10 h10 p10 o10 (by simp [ocI, ocS]) fun C40 hc s cs => ?_
            have k30 := k30.chg hc (by simpa using x30)
            repeat' (first | simp -implicitDefEqProofs only [zG1,zG2,zG3,zG4,zG5,zG6,zG7,eq_self,resV,rval,X.val,binv,fillL,setR,↓reduceIte,Nat.reduceEqDiff,Nat.reduceAdd,Nat.reduceMul,Nat.reduceLeDiff,Nat.reduceLT,Nat.reduceSub,reduceCtorEq,zGq, s.lp, cs] | (with_reducible refine draw_at C40 (.refl _) ?_) | (with_reducible refine l4Leaf_ok _ _ _ _ _ (fun A37 c37 C37 l37 => ?_)) | (with_reducible refine ⟨l37, ?_⟩) | (with_reducible refine rows_intro (fun y hy => ?_)))
            exact ⟨l37.trans ((AHeap.le.refl C37).fresh hy _), ret_same (finL (A37 := A37) (c37 := c37) h (s.le l37) hs (k30.trans l37) h30 hbd (by omega) ⟨hu0, by omega⟩ (by omega) (by omega) hy)⟩
          · refine s.lit fun y33 C33 n33 l s k33 => ?_
            have k10 := k10.trans l
            repeat' (first | simp -implicitDefEqProofs only [zG1,zG2,zG3,zG4,zG5,zG6,zG7,eq_self,resV,rval,X.val,binv,fillL,setR,↓reduceIte,Nat.reduceEqDiff,Nat.reduceAdd,Nat.reduceMul,Nat.reduceLeDiff,Nat.reduceLT,Nat.reduceSub,reduceCtorEq,zGq, s.lp])
            refine l4Both_ok _ _ _ 5 (.mk 13 3 []) (.mk 0 (1 + u) []) A25 A29 c25 c29 (fun z30 C30 t30 cc30 l hz30 k30 => ?_)
            have h30 := s.d.nov hz30
            have o30 := s.off hz30
            have s := s.le l
            have x30 : ¬ z30 = y10 := fun e => k10.ne (e ▸ hz30)
            have k33 := k33.trans l
            have k10 := k10.trans l
            repeat' (first | simp -implicitDefEqProofs only [zG1,zG2,zG3,zG4,zG5,zG6,zG7,eq_self,resV,rval,X.val,binv,fillL,setR,↓reduceIte,Nat.reduceEqDiff,Nat.reduceAdd,Nat.reduceMul,Nat.reduceLeDiff,Nat.reduceLT,Nat.reduceSub,reduceCtorEq,zGq, s.lp])
            refine s.more k33 (by omega) rfl fun A34 c34 C34 bs34 hc hn s => ?_
            have o34 := off_app k10 o10 hn
            have k10 := k10.chg hc o10
            have o10 := o34
            have k30 := k30.chg hc o30
            repeat' (first | simp -implicitDefEqProofs only [zG1,zG2,zG3,zG4,zG5,zG6,zG7,eq_self,resV,rval,X.val,binv,fillL,setR,↓reduceIte,Nat.reduceEqDiff,Nat.reduceAdd,Nat.reduceMul,Nat.reduceLeDiff,Nat.reduceLT,Nat.reduceSub,reduceCtorEq,zGq, s.lp])
            refine s.put k10 h10 p10 o10 (by simp [ocI, ocS]) fun C40 hc s cs => ?_
            have k30 := k30.chg hc (by simpa using x30)
            repeat' (first | simp -implicitDefEqProofs only [zG1,zG2,zG3,zG4,zG5,zG6,zG7,eq_self,resV,rval,X.val,binv,fillL,setR,↓reduceIte,Nat.reduceEqDiff,Nat.reduceAdd,Nat.reduceMul,Nat.reduceLeDiff,Nat.reduceLT,Nat.reduceSub,reduceCtorEq,zGq, s.lp, cs] | (with_reducible refine draw_at C40 (.refl _) ?_) | (with_reducible refine l4Leaf_ok _ _ _ _ _ (fun A37 c37 C37 l37 => ?_)) | (with_reducible refine ⟨l37, ?_⟩) | (with_reducible refine rows_intro (fun y hy => ?_)))
            exact ⟨l37.trans ((AHeap.le.refl C37).fresh hy _), ret_same (finL (A37 := A37) (c37 := c37) h (s.le l37) hs (k30.trans l37) h30 hbd (by omega) ⟨hu0, by omega⟩ (by omega) (by omega) hy)⟩
        · refine s.lit fun y33 C33 n33 l s k33 => ?_
          have k10 := k10.trans l
          repeat' (first | simp -implicitDefEqProofs only [zG1,zG2,zG3,zG4,zG5,zG6,zG7,eq_self,resV,rval,X.val,binv,fillL,setR,↓reduceIte,Nat.reduceEqDiff,Nat.reduceAdd,Nat.reduceMul,Nat.reduceLeDiff,Nat.reduceLT,Nat.reduceSub,reduceCtorEq,zGq, s.lp])
          refine s.leaf fun A29 c29 C29 l s => ?_
          have k33 := k33.trans l
          have k10 := k10.trans l
          repeat' (first | simp -implicitDefEqProofs only [zG1,zG2,zG3,zG4,zG5,zG6,zG7,eq_self,resV,rval,X.val,binv,fillL,setR,↓reduceIte,Nat.reduceEqDiff,Nat.reduceAdd,Nat.reduceMul,Nat.reduceLeDiff,Nat.reduceLT,Nat.reduceSub,reduceCtorEq,zGq, s.lp])
          refine l4Both_ok _ _ _ 5 (.mk 13 3 []) (.mk 0 (1 + u) []) A25 A29 c25 c29 (fun z30 C30 t30 cc30 l hz30 k30 => ?_)
          have h30 := s.d.nov hz30
          have o30 := s.off hz30
          have s := s.le l
          have x30 : ¬ z30 = y10 := fun e => k10.ne (e ▸ hz30)
          have k33 := k33.trans l
          have k10 := k10.trans l
          repeat' (first | simp -implicitDefEqProofs only [zG1,zG2,zG3,zG4,zG5,zG6,zG7,eq_self,resV,rval,X.val,binv,fillL,setR,↓reduceIte,Nat.reduceEqDiff,Nat.reduceAdd,Nat.reduceMul,Nat.reduceLeDiff,Nat.reduceLT,Nat.reduceSub,reduceCtorEq,zGq, s.lp])
          refine s.more k33 (by omega) rfl fun A34 c34 C34 bs34 hc hn s => ?_
          have o34 := off_app k10 o10 hn
          have k10 := k10.chg hc o10
          have o10 := o34
          have k30 := k30.chg hc o30
          repeat' (first | simp -implicitDefEqProofs only [zG1,zG2,zG3,zG4,zG5,zG6,zG7,eq_self,resV,rval,X.val,binv,fillL,setR,↓reduceIte,Nat.reduceEqDiff,Nat.reduceAdd,Nat.reduceMul,Nat.reduceLeDiff,Nat.reduceLT,Nat.reduceSub,reduceCtorEq,zGq, s.lp])
          refine s.put k10 h10 p10 o10 (by simp [ocI, ocS]) fun C40 hc s cs => ?_
          have k30 := k30.chg hc (by simpa using x30)
          repeat' (first | simp -implicitDefEqProofs only [zG1,zG2,zG3,zG4,zG5,zG6,zG7,eq_self,resV,rval,X.val,binv,fillL,setR,↓reduceIte,Nat.reduceEqDiff,Nat.reduceAdd,Nat.reduceMul,Nat.reduceLeDiff,Nat.reduceLT,Nat.reduceSub,reduceCtorEq,zGq, s.lp, cs] | (with_reducible refine draw_at C40 (.refl _) ?_) | (with_reducible refine l4Leaf_ok _ _ _ _ _ (fun A37 c37 C37 l37 => ?_)) | (with_reducible refine ⟨l37, ?_⟩) | (with_reducible refine rows_intro (fun y hy => ?_)))
          exact ⟨l37.trans ((AHeap.le.refl C37).fresh hy _), ret_same (finL (A37 := A37) (c37 := c37) h (s.le l37) hs (k30.trans l37) h30 hbd (by omega) ⟨hu0, by omega⟩ (by omega) (by omega) hy)⟩
    · refine s.lit fun y33 C33 n33 l s k33 => ?_
      repeat' (first | simp -implicitDefEqProofs only [zG1,zG2,zG3,zG4,zG5,zG6,zG7,eq_self,resV,rval,X.val,binv,fillL,setR,↓reduceIte,Nat.reduceEqDiff,Nat.reduceAdd,Nat.reduceMul,Nat.reduceLeDiff,Nat.reduceLT,Nat.reduceSub,reduceCtorEq,zGq, s.lp])
      refine ⟨?_, ?_⟩
      · refine pickK_ok _ _ s.r 3 (by omega) (by omega) (by decide) (fun u C27 r27 d27 hu0 hu1 => ?_)
        have s := s.pick r27 d27
        have k33 := d27.kn k33 n33
        have w3 := pl1 hu0 hu1
        repeat' (first | simp -implicitDefEqProofs only [zG1,zG2,zG3,zG4,zG5,zG6,zG7,eq_self,resV,rval,X.val,binv,fillL,setR,↓reduceIte,Nat.reduceEqDiff,Nat.reduceAdd,Nat.reduceMul,Nat.reduceLeDiff,Nat.reduceLT,Nat.reduceSub,reduceCtorEq,zGq, s.lp, w3])
        refine ⟨?_, ?_⟩
        · refine s.leaf fun A29 c29 C29 l s => ?_
          have k33 := k33.trans l
          repeat' (first | simp -implicitDefEqProofs only [zG1,zG2,zG3,zG4,zG5,zG6,zG7,eq_self,resV,rval,X.val,binv,fillL,setR,↓reduceIte,Nat.reduceEqDiff,Nat.reduceAdd,Nat.reduceMul,Nat.reduceLeDiff,Nat.reduceLT,Nat.reduceSub,reduceCtorEq,zGq, s.lp])
          refine ⟨?_, ?_⟩
          · refine l4Both_ok _ _ _ 5 (.mk 13 3 []) (.mk 0 (1 + u) []) A25 A29 c25 c29 (fun z30 C30 t30 cc30 l hz30 k30 => ?_)
            have h30 := s.d.nov hz30
            have o30 := s.off hz30
            have s := s.le l
            have k33 := k33.trans l
            repeat' (first | simp -implicitDefEqProofs only [zG1,zG2,zG3,zG4,zG5,zG6,zG7,eq_self,resV,rval,X.val,binv,fillL,setR,↓reduceIte,Nat.reduceEqDiff,Nat.reduceAdd,Nat.reduceMul,Nat.reduceLeDiff,Nat.reduceLT,Nat.reduceSub,reduceCtorEq,zGq, s.lp])
            refine ⟨?_, ?_⟩
            · refine s.more k33 (by omega) rfl fun A34 c34 C34 bs34 hc hn s => ?_
              have k30 := k30.chg hc o30
              repeat' (first | simp -implicitDefEqProofs only [zG1,zG2,zG3,zG4,zG5,zG6,zG7,eq_self,resV,rval,X.val,binv,fillL,setR,↓reduceIte,Nat.reduceEqDiff,Nat.reduceAdd,Nat.reduceMul,Nat.reduceLeDiff,Nat.reduceLT,Nat.reduceSub,reduceCtorEq,zGq, s.lp])
              refine s.new fun y10 C10 hy10 h10 p10 o10 n10 l s k10 => ?_
              have x30 : ¬ z30 = y10 := fun e => k30.ne (e ▸ hy10)
              have k30 := k30.trans l
              repeat' (first | simp -implicitDefEqProofs only [zG1,zG2,zG3,zG4,zG5,zG6,zG7,eq_self,resV,rval,X.val,binv,fillL,setR,↓reduceIte,Nat.reduceEqDiff,Nat.reduceAdd,Nat.reduceMul,Nat.reduceLeDiff,Nat.reduceLT,Nat.reduceSub,reduceCtorEq,zGq, s.lp])
              refine s.put k10 h10 p10 o10 (by simp [ocI, ocS]) fun C40 hc s cs => ?_
              have k30 := k30.chg hc (by simpa using x30)
              repeat' (first | simp -implicitDefEqProofs only [zG1,zG2,zG3,zG4,zG5,zG6,zG7,eq_self,resV,rval,X.val,binv,fillL,setR,↓reduceIte,Nat.reduceEqDiff,Nat.reduceAdd,Nat.reduceMul,Nat.reduceLeDiff,Nat.reduceLT,Nat.reduceSub,reduceCtorEq,zGq, s.lp, cs] | (with_reducible refine draw_at C40 (.refl _) ?_) | (with_reducible refine l4Leaf_ok _ _ _ _ _ (fun A37 c37 C37 l37 => ?_)) | (with_reducible refine ⟨l37, ?_⟩) | (with_reducible refine rows_intro (fun y hy => ?_)))
              exact ⟨l37.trans ((AHeap.le.refl C37).fresh hy _), ret_same (finL (A37 := A37) (c37 := c37) h (s.le l37) hs (k30.trans l37) h30 hbd (by omega) ⟨hu0, by omega⟩ (by omega) (by omega) hy)⟩
            · refine s.new fun y10 C10 hy10 h10 p10 o10 n10 l s k10 => ?_
              have x30 : ¬ z30 = y10 := fun e => k30.ne (e ▸ hy10)
              have k33 := k33.trans l
              have k30 := k30.trans l
              repeat' (first | simp -implicitDefEqProofs only [zG1,zG2,zG3,zG4,zG5,zG6,zG7,eq_self,resV,rval,X.val,binv,fillL,setR,↓reduceIte,Nat.reduceEqDiff,Nat.reduceAdd,Nat.reduceMul,Nat.reduceLeDiff,Nat.reduceLT,Nat.reduceSub,reduceCtorEq,zGq, s.lp])
              refine s.more k33 (by omega) rfl fun A34 c34 C34 bs34 hc hn s => ?_
              have o34 := off_app k10 o10 hn
              have k10 := k10.chg hc o10
              have o10 := o34
              have k30 := k30.chg hc o30
              repeat' (first | simp -implicitDefEqProofs only [zG1,zG2,zG3,zG4,zG5,zG6,zG7,eq_self,resV,rval,X.val,binv,fillL,setR,↓reduceIte,Nat.reduceEqDiff,Nat.reduceAdd,Nat.reduceMul,Nat.reduceLeDiff,Nat.reduceLT,Nat.reduceSub,reduceCtorEq,zGq, s.lp])
              refine s.put k10 h10 p10 o10 (by simp [ocI, ocS]) fun C40 hc s cs => ?_
              have k30 := k30.chg hc (by simpa using x30)
              repeat' (first | simp -implicitDefEqProofs only [zG1,zG2,zG3,zG4,zG5,zG6,zG7,eq_self,resV,rval,X.val,binv,fillL,setR,↓reduceIte,Nat.reduceEqDiff,Nat.reduceAdd,Nat.reduceMul,Nat.reduceLeDiff,Nat.reduceLT,Nat.reduceSub,reduceCtorEq,zGq, s.lp, cs] | (with_reducible refine draw_at C40 (.refl _) ?_) | (with_reducible refine l4Leaf_ok _ _ _ _ _ (fun A37 c37 C37 l37 => ?_)) | (with_reducible refine ⟨l37, ?_⟩) | (with_reducible refine rows_intro (fun y hy => ?_)))
              exact ⟨l37.trans ((AHeap.le.refl C37).fresh hy _), ret_same (finL (A37 := A37) (c37 := c37) h (s.le l37) hs (k30.trans l37) h30 hbd (by omega) ⟨hu0, by omega⟩ (by omega) (by omega) hy)⟩
          · refine s.new fun y10 C10 hy10 h10 p10 o10 n10 l s k10 => ?_
            have k33 := k33.trans l
            repeat' (first | simp -implicitDefEqProofs only [zG1,zG2,zG3,zG4,zG5,zG6,zG7,eq_self,resV,rval,X.val,binv,fillL,setR,↓reduceIte,Nat.reduceEqDiff,Nat.reduceAdd,Nat.reduceMul,Nat.reduceLeDiff,Nat.reduceLT,Nat.reduceSub,reduceCtorEq,zGq, s.lp])
            refine l4Both_ok _ _ _ 5 (.mk 13 3 []) (.mk 0 (1 + u) []) A25 A29 c25 c29 (fun z30 C30 t30 cc30 l hz30 k30 => ?_)
            have h30 := s.d.nov hz30
            have o30 := s.off hz30
            have s := s.le l
            have x30 : ¬ z30 = y10 := fun e => k10.ne (e ▸ hz30)
            have k33 := k33.trans l
            have k10 := k10.trans l
            repeat' (first | simp -implicitDefEqProofs only [zG1,zG2,zG3,zG4,zG5,zG6,zG7,eq_self,resV,rval,X.val,binv,fillL,setR,↓reduceIte,Nat.reduceEqDiff,Nat.reduceAdd,Nat.reduceMul,Nat.reduceLeDiff,Nat.reduceLT,Nat.reduceSub,reduceCtorEq,zGq, s.lp])
            refine s.more k33 (by omega) rfl fun A34 c34 C34 bs34 hc hn s => ?_
            have o34 := off_app k10 o10 hn
            have k10 := k10.chg hc o10
            have o10 := o34
            have k30 := k30.chg hc o30
            repeat' (first | simp -implicitDefEqProofs only [zG1,zG2,zG3,zG4,zG5,zG6,zG7,eq_self,resV,rval,X.val,binv,fillL,setR,↓reduceIte,Nat.reduceEqDiff,Nat.reduceAdd,Nat.reduceMul,Nat.reduceLeDiff,Nat.reduceLT,Nat.reduceSub,reduceCtorEq,zGq, s.lp])
            refine s.put k10 h10 p10 o10 (by simp [ocI, ocS]) fun C40 hc s cs => ?_
            have k30 := k30.chg hc (by simpa using x30)
            repeat' (first | simp -implicitDefEqProofs only [zG1,zG2,zG3,zG4,zG5,zG6,zG7,eq_self,resV,rval,X.val,binv,fillL,setR,↓reduceIte,Nat.reduceEqDiff,Nat.reduceAdd,Nat.reduceMul,Nat.reduceLeDiff,Nat.reduceLT,Nat.reduceSub,reduceCtorEq,zGq, s.lp, cs] | (with_reducible refine draw_at C40 (.refl _) ?_) | (with_reducible refine l4Leaf_ok _ _ _ _ _ (fun A37 c37 C37 l37 => ?_)) | (with_reducible refine ⟨l37, ?_⟩) | (with_reducible refine rows_intro (fun y hy => ?_)))
            exact ⟨l37.trans ((AHeap.le.refl C37).fresh hy _), ret_same (finL (A37 := A37) (c37 := c37) h (s.le l37) hs (k30.trans l37) h30 hbd (by omega) ⟨hu0, by omega⟩ (by omega) (by omega) hy)⟩
        · refine s.new fun y10 C10 hy10 h10 p10 o10 n10 l s k10 => ?_
          have k33 := k33.trans l
          repeat' (first | simp -implicitDefEqProofs only [zG1,zG2,zG3,zG4,zG5,zG6,zG7,eq_self,resV,rval,X.val,binv,fillL,setR,↓reduceIte,Nat.reduceEqDiff,Nat.reduceAdd,Nat.reduceMul,Nat.reduceLeDiff,Nat.reduceLT,Nat.reduceSub,reduceCtorEq,zGq, s.lp])
          refine s.leaf fun A29 c29 C29 l s => ?_
          have k33 := k33.trans l
          have k10 := k10.trans l
          repeat' (first | simp -implicitDefEqProofs only [zG1,zG2,zG3,zG4,zG5,zG6,zG7,eq_self,resV,rval,X.val,binv,fillL,setR,↓reduceIte,Nat.reduceEqDiff,Nat.reduceAdd,Nat.reduceMul,Nat.reduceLeDiff,Nat.reduceLT,Nat.reduceSub,reduceCtorEq,zGq, s.lp])
          refine l4Both_ok _ _ _ 5 (.mk 13 3 []) (.mk 0 (1 + u) []) A25 A29 c25 c29 (fun z30 C30 t30 cc30 l hz30 k30 => ?_)
          have h30 := s.d.nov hz30
          have o30 := s.off hz30
          have s := s.le l
          have x30 : ¬ z30 = y10 := fun e => k10.ne (e ▸ hz30)
          have k33 := k33.trans l
          have k10 := k10.trans l
          repeat' (first | simp -implicitDefEqProofs only [zG1,zG2,zG3,zG4,zG5,zG6,zG7,eq_self,resV,rval,X.val,binv,fillL,setR,↓reduceIte,Nat.reduceEqDiff,Nat.reduceAdd,Nat.reduceMul,Nat.reduceLeDiff,Nat.reduceLT,Nat.reduceSub,reduceCtorEq,zGq, s.lp])
          refine s.more k33 (by omega) rfl fun A34 c34 C34 bs34 hc hn s => ?_
          have o34 := off_app k10 o10 hn
          have k10 := k10.chg hc o10
          have o10 := o34
          have k30 := k30.chg hc o30
          repeat' (first | simp -implicitDefEqProofs only [zG1,zG2,zG3,zG4,zG5,zG6,zG7,eq_self,resV,rval,X.val,binv,fillL,setR,↓reduceIte,Nat.reduceEqDiff,Nat.reduceAdd,Nat.reduceMul,Nat.reduceLeDiff,Nat.reduceLT,Nat.reduceSub,reduceCtorEq,zGq, s.lp])
          refine s.put k10 h10 p10 o10 (by simp [ocI, ocS]) fun C40 hc s cs => ?_
          have k30 := k30.chg hc (by simpa using x30)
          repeat' (first | simp -implicitDefEqProofs only [zG1,zG2,zG3,zG4,zG5,zG6,zG7,eq_self,resV,rval,X.val,binv,fillL,setR,↓reduceIte,Nat.reduceEqDiff,Nat.reduceAdd,Nat.reduceMul,Nat.reduceLeDiff,Nat.reduceLT,Nat.reduceSub,reduceCtorEq,zGq, s.lp, cs] | (with_reducible refine draw_at C40 (.refl _) ?_) | (with_reducible refine l4Leaf_ok _ _ _ _ _ (fun A37 c37 C37 l37 => ?_)) | (with_reducible refine ⟨l37, ?_⟩) | (with_reducible refine rows_intro (fun y hy => ?_)))
          exact ⟨l37.trans ((AHeap.le.refl C37).fresh hy _), ret_same (finL (A37 := A37) (c37 := c37) h (s.le l37) hs (k30.trans l37) h30 hbd (by omega) ⟨hu0, by omega⟩ (by omega) (by omega) hy)⟩
      · refine s.new fun y10 C10 hy10 h10 p10 o10 n10 l s k10 => ?_
        have k33 := k33.trans l
        repeat' (first | simp -implicitDefEqProofs only [zG1,zG2,zG3,zG4,zG5,zG6,zG7,eq_self,resV,rval,X.val,binv,fillL,setR,↓reduceIte,Nat.reduceEqDiff,Nat.reduceAdd,Nat.reduceMul,Nat.reduceLeDiff,Nat.reduceLT,Nat.reduceSub,reduceCtorEq,zGq, s.lp])
        refine pickK_ok _ _ s.r 3 (by omega) (by omega) (by decide) (fun u C27 r27 d27 hu0 hu1 => ?_)
        have s := s.pick r27 d27
        have k33 := d27.kn k33 n33
        have k10 := d27.kn k10 n10
        have w3 := pl1 hu0 hu1
        repeat' (first | simp -implicitDefEqProofs only [zG1,zG2,zG3,zG4,zG5,zG6,zG7,eq_self,resV,rval,X.val,binv,fillL,setR,↓reduceIte,Nat.reduceEqDiff,Nat.reduceAdd,Nat.reduceMul,Nat.reduceLeDiff,Nat.reduceLT,Nat.reduceSub,reduceCtorEq,zGq, s.lp, w3])
        refine s.leaf fun A29 c29 C29 l s => ?_
        have k33 := k33.trans l
        have k10 := k10.trans l
        repeat' (first | simp -implicitDefEqProofs only [zG1,zG2,zG3,zG4,zG5,zG6,zG7,eq_self,resV,rval,X.val,binv,fillL,setR,↓reduceIte,Nat.reduceEqDiff,Nat.reduceAdd,Nat.reduceMul,Nat.reduceLeDiff,Nat.reduceLT,Nat.reduceSub,reduceCtorEq,zGq, s.lp])
        refine l4Both_ok _ _ _ 5 (.mk 13 3 []) (.mk 0 (1 + u) []) A25 A29 c25 c29 (fun z30 C30 t30 cc30 l hz30 k30 => ?_)
        have h30 := s.d.nov hz30
        have o30 := s.off hz30
        have s := s.le l
        have x30 : ¬ z30 = y10 := fun e => k10.ne (e ▸ hz30)
        have k33 := k33.trans l
        have k10 := k10.trans l
        repeat' (first | simp -implicitDefEqProofs only [zG1,zG2,zG3,zG4,zG5,zG6,zG7,eq_self,resV,rval,X.val,binv,fillL,setR,↓reduceIte,Nat.reduceEqDiff,Nat.reduceAdd,Nat.reduceMul,Nat.reduceLeDiff,Nat.reduceLT,Nat.reduceSub,reduceCtorEq,zGq, s.lp])
        refine s.more k33 (by omega) rfl fun A34 c34 C34 bs34 hc hn s => ?_
        have o34 := off_app k10 o10 hn
        have k10 := k10.chg hc o10
        have o10 := o34
        have k30 := k30.chg hc o30
        repeat' (first | simp -implicitDefEqProofs only [zG1,zG2,zG3,zG4,zG5,zG6,zG7,eq_self,resV,rval,X.val,binv,fillL,setR,↓reduceIte,Nat.reduceEqDiff,Nat.reduceAdd,Nat.reduceMul,Nat.reduceLeDiff,Nat.reduceLT,Nat.reduceSub,reduceCtorEq,zGq, s.lp])
        refine s.put k10 h10 p10 o10 (by simp [ocI, ocS]) fun C40 hc s cs => ?_
        have k30 := k30.chg hc (by simpa using x30)
        repeat' (first | simp -implicitDefEqProofs only [zG1,zG2,zG3,zG4,zG5,zG6,zG7,eq_self,resV,rval,X.val,binv,fillL,setR,↓reduceIte,Nat.reduceEqDiff,Nat.reduceAdd,Nat.reduceMul,Nat.reduceLeDiff,Nat.reduceLT,Nat.reduceSub,reduceCtorEq,zGq, s.lp, cs] | (with_reducible refine draw_at C40 (.refl _) ?_) | (with_reducible refine l4Leaf_ok _ _ _ _ _ (fun A37 c37 C37 l37 => ?_)) | (with_reducible refine ⟨l37, ?_⟩) | (with_reducible refine rows_intro (fun y hy => ?_)))
        exact ⟨l37.trans ((AHeap.le.refl C37).fresh hy _), ret_same (finL (A37 := A37) (c37 := c37) h (s.le l37) hs (k30.trans l37) h30 hbd (by omega) ⟨hu0, by omega⟩ (by omega) (by omega) hy)⟩
    · refine s.new fun y10 C10 hy10 h10 p10 o10 n10 l s k10 => ?_
      repeat' (first | simp -implicitDefEqProofs only [zG1,zG2,zG3,zG4,zG5,zG6,zG7,eq_self,resV,rval,X.val,binv,fillL,setR,↓reduceIte,Nat.reduceEqDiff,Nat.reduceAdd,Nat.reduceMul,Nat.reduceLeDiff,Nat.reduceLT,Nat.reduceSub,reduceCtorEq,zGq, s.lp])
      refine ⟨?_, ?_⟩
      · refine pickK_ok _ _ s.r 3 (by omega) (by omega) (by decide) (fun u C27 r27 d27 hu0 hu1 => ?_)
        have s := s.pick r27 d27
        have k10 := d27.kn k10 n10
        have w3 := pl1 hu0 hu1
        repeat' (first | simp -implicitDefEqProofs only [zG1,zG2,zG3,zG4,zG5,zG6,zG7,eq_self,resV,rval,X.val,binv,fillL,setR,↓reduceIte,Nat.reduceEqDiff,Nat.reduceAdd,Nat.reduceMul,Nat.reduceLeDiff,Nat.reduceLT,Nat.reduceSub,reduceCtorEq,zGq, s.lp, w3])
        refine ⟨?_, ?_⟩
        · refine s.leaf fun A29 c29 C29 l s => ?_
          have k10 := k10.trans l
          repeat' (first | simp -implicitDefEqProofs only [zG1,zG2,zG3,zG4,zG5,zG6,zG7,eq_self,resV,rval,X.val,binv,fillL,setR,↓reduceIte,Nat.reduceEqDiff,Nat.reduceAdd,Nat.reduceMul,Nat.reduceLeDiff,Nat.reduceLT,Nat.reduceSub,reduceCtorEq,zGq, s.lp])
          refine ⟨?_, ?_⟩
          · refine l4Both_ok _ _ _ 5 (.mk 13 3 []) (.mk 0 (1 + u) []) A25 A29 c25 c29 (fun z30 C30 t30 cc30 l hz30 k30 => ?_)
            have h30 := s.d.nov hz30
            have o30 := s.off hz30
            have s := s.le l
            have x30 : ¬ z30 = y10 := fun e => k10.ne (e ▸ hz30)
            have k10 := k10.trans l
            repeat' (first | simp -implicitDefEqProofs only [zG1,zG2,zG3,zG4,zG5,zG6,zG7,eq_self,resV,rval,X.val,binv,fillL,setR,↓reduceIte,Nat.reduceEqDiff,Nat.reduceAdd,Nat.reduceMul,Nat.reduceLeDiff,Nat.reduceLT,Nat.reduceSub,reduceCtorEq,zGq, s.lp])
            refine s.lit fun y33 C33 n33 l s k33 => ?_
            have k10 := k10.trans l
            have k30 := k30.trans l
            repeat' (first | simp -implicitDefEqProofs only [zG1,zG2,zG3,zG4,zG5,zG6,zG7,eq_self,resV,rval,X.val,binv,fillL,setR,↓reduceIte,Nat.reduceEqDiff,Nat.reduceAdd,Nat.reduceMul,Nat.reduceLeDiff,Nat.reduceLT,Nat.reduceSub,reduceCtorEq,zGq, s.lp])
            refine s.more k33 (by omega) rfl fun A34 c34 C34 bs34 hc hn s => ?_
            have o34 := off_app k10 o10 hn
            have k10 := k10.chg hc o10
            have o10 := o34
            have k30 := k30.chg hc o30
            repeat' (first | simp -implicitDefEqProofs only [zG1,zG2,zG3,zG4,zG5,zG6,zG7,eq_self,resV,rval,X.val,binv,fillL,setR,↓reduceIte,Nat.reduceEqDiff,Nat.reduceAdd,Nat.reduceMul,Nat.reduceLeDiff,Nat.reduceLT,Nat.reduceSub,reduceCtorEq,zGq, s.lp])
            refine s.put k10 h10 p10 o10 (by simp [ocI, ocS]) fun C40 hc s cs => ?_
            have k30 := k30.chg hc (by simpa using x30)
            repeat' (first | simp -implicitDefEqProofs only [zG1,zG2,zG3,zG4,zG5,zG6,zG7,eq_self,resV,rval,X.val,binv,fillL,setR,↓reduceIte,Nat.reduceEqDiff,Nat.reduceAdd,Nat.reduceMul,Nat.reduceLeDiff,Nat.reduceLT,Nat.reduceSub,reduceCtorEq,zGq, s.lp, cs] | (with_reducible refine draw_at C40 (.refl _) ?_) | (with_reducible refine l4Leaf_ok _ _ _ _ _ (fun A37 c37 C37 l37 => ?_)) | (with_reducible refine ⟨l37, ?_⟩) | (with_reducible refine rows_intro (fun y hy => ?_)))
            exact ⟨l37.trans ((AHeap.le.refl C37).fresh hy _), ret_same (finL (A37 := A37) (c37 := c37) h (s.le l37) hs (k30.trans l37) h30 hbd (by omega) ⟨hu0, by omega⟩ (by omega) (by omega) hy)⟩
          · refine s.lit fun y33 C33 n33 l s k33 => ?_
            have k10 := k10.trans l
            repeat' (first | simp -implicitDefEqProofs only [zG1,zG2,zG3,zG4,zG5,zG6,zG7,eq_self,resV,rval,X.val,binv,fillL,setR,↓reduceIte,Nat.reduceEqDiff,Nat.reduceAdd,Nat.reduceMul,Nat.reduceLeDiff,Nat.reduceLT,Nat.reduceSub,reduceCtorEq,zGq, s.lp])
            refine l4Both_ok _ _ _ 5 (.mk 13 3 []) (.mk 0 (1 + u) []) A25 A29 c25 c29 (fun z30 C30 t30 cc30 l hz30 k30 => ?_)
            have h30 := s.d.nov hz30
            have o30 := s.off hz30
            have s := s.le l
            have x30 : ¬ z30 = y10 := fun e => k10.ne (e ▸ hz30)
            have k33 := k33.trans l
            have k10 := k10.trans l
            repeat' (first | simp -implicitDefEqProofs only [zG1,zG2,zG3,zG4,zG5,zG6,zG7,eq_self,resV,rval,X.val,binv,fillL,setR,↓reduceIte,Nat.reduceEqDiff,Nat.reduceAdd,Nat.reduceMul,Nat.reduceLeDiff,Nat.reduceLT,Nat.reduceSub,reduceCtorEq,zGq, s.lp])
            refine s.more k33 (by omega) rfl fun A34 c34 C34 bs34 hc hn s => ?_
            have o34 := off_app k10 o10 hn
            have k10 := k10.chg hc o10
            have o10 := o34
            have k30 := k30.chg hc o30
            repeat' (first | simp -implicitDefEqProofs only [zG1,zG2,zG3,zG4,zG5,zG6,zG7,eq_self,resV,rval,X.val,binv,fillL,setR,↓reduceIte,Nat.reduceEqDiff,Nat.reduceAdd,Nat.reduceMul,Nat.reduceLeDiff,Nat.reduceLT,Nat.reduceSub,reduceCtorEq,zGq, s.lp])
            refine s.put k10 h10 p10 o10 (by simp [ocI, ocS]) fun C40 hc s cs => ?_
            have k30 := k30.chg hc (by simpa using x30)
            repeat' (first | simp -implicitDefEqProofs only [zG1,zG2,zG3,zG4,zG5,zG6,zG7,eq_self,resV,rval,X.val,binv,fillL,setR,↓reduceIte,Nat.reduceEqDiff,Nat.reduceAdd,Nat.reduceMul,Nat.reduceLeDiff,Nat.reduceLT,Nat.reduceSub,reduceCtorEq,zGq, s.lp, cs] | (with_reducible refine draw_at C40 (.refl _) ?_) | (with_reducible refine l4Leaf_ok _ _ _ _ _ (fun A37 c37 C37 l37 => ?_)) | (with_reducible refine ⟨l37, ?_⟩) | (with_reducible refine rows_intro (fun y hy => ?_)))
            exact ⟨l37.trans ((AHeap.le.refl C37).fresh hy _), ret_same (finL (A37 := A37) (c37 := c37) h (s.le l37) hs (k30.trans l37) h30 hbd (by omega) ⟨hu0, by omega⟩ (by omega) (by omega) hy)⟩
        · refine s.lit fun y33 C33 n33 l s k33 => ?_
          have k10 := k10.trans l
          repeat' (first | simp -implicitDefEqProofs only [zG1,zG2,zG3,zG4,zG5,zG6,zG7,eq_self,resV,rval,X.val,binv,fillL,setR,↓reduceIte,Nat.reduceEqDiff,Nat.reduceAdd,Nat.reduceMul,Nat.reduceLeDiff,Nat.reduceLT,Nat.reduceSub,reduceCtorEq,zGq, s.lp])
          refine s.leaf fun A29 c29 C29 l s => ?_
          have k33 := k33.trans l
          have k10 := k10.trans l
          repeat' (first | simp -implicitDefEqProofs only [zG1,zG2,zG3,zG4,zG5,zG6,zG7,eq_self,resV,rval,X.val,binv,fillL,setR,↓reduceIte,Nat.reduceEqDiff,Nat.reduceAdd,Nat.reduceMul,Nat.reduceLeDiff,Nat.reduceLT,Nat.reduceSub,reduceCtorEq,zGq, s.lp])
          refine l4Both_ok _ _ _ 5 (.mk 13 3 []) (.mk 0 (1 + u) []) A25 A29 c25 c29 (fun z30 C30 t30 cc30 l hz30 k30 => ?_)
          have h30 := s.d.nov hz30
          have o30 := s.off hz30
          have s := s.le l
          have x30 : ¬ z30 = y10 := fun e => k10.ne (e ▸ hz30)
          have k33 := k33.trans l
          have k10 := k10.trans l
          repeat' (first | simp -implicitDefEqProofs only [zG1,zG2,zG3,zG4,zG5,zG6,zG7,eq_self,resV,rval,X.val,binv,fillL,setR,↓reduceIte,Nat.reduceEqDiff,Nat.reduceAdd,Nat.reduceMul,Nat.reduceLeDiff,Nat.reduceLT,Nat.reduceSub,reduceCtorEq,zGq, s.lp])
          refine s.more k33 (by omega) rfl fun A34 c34 C34 bs34 hc hn s => ?_
          have o34 := off_app k10 o10 hn
          have k10 := k10.chg hc o10
          have o10 := o34
          have k30 := k30.chg hc o30
          repeat' (first | simp -implicitDefEqProofs only [zG1,zG2,zG3,zG4,zG5,zG6,zG7,eq_self,resV,rval,X.val,binv,fillL,setR,↓reduceIte,Nat.reduceEqDiff,Nat.reduceAdd,Nat.reduceMul,Nat.reduceLeDiff,Nat.reduceLT,Nat.reduceSub,reduceCtorEq,zGq, s.lp])
          refine s.put k10 h10 p10 o10 (by simp [ocI, ocS]) fun C40 hc s cs => ?_
          have k30 := k30.chg hc (by simpa using x30)
          repeat' (first | simp -implicitDefEqProofs only [zG1,zG2,zG3,zG4,zG5,zG6,zG7,eq_self,resV,rval,X.val,binv,fillL,setR,↓reduceIte,Nat.reduceEqDiff,Nat.reduceAdd,Nat.reduceMul,Nat.reduceLeDiff,Nat.reduceLT,Nat.reduceSub,reduceCtorEq,zGq, s.lp, cs] | (with_reducible refine draw_at C40 (.refl _) ?_) | (with_reducible refine l4Leaf_ok _ _ _ _ _ (fun A37 c37 C37 l37 => ?_)) | (with_reducible refine ⟨l37, ?_⟩) | (with_reducible refine rows_intro (fun y hy => ?_)))
          exact ⟨l37.trans ((AHeap.le.refl C37).fresh hy _), ret_same (finL (A37 := A37) (c37 := c37) h (s.le l37) hs (k30.trans l37) h30 hbd (by omega) ⟨hu0, by omega⟩ (by omega) (by omega) hy)⟩
      · refine s.lit fun y33 C33 n33 l s k33 => ?_
        have k10 := k10.trans l
        repeat' (first | simp -implicitDefEqProofs only [zG1,zG2,zG3,zG4,zG5,zG6,zG7,eq_self,resV,rval,X.val,binv,fillL,setR,↓reduceIte,Nat.reduceEqDiff,Nat.reduceAdd,Nat.reduceMul,Nat.reduceLeDiff,Nat.reduceLT,Nat.reduceSub,reduceCtorEq,zGq, s.lp])
        refine pickK_ok _ _ s.r 3 (by omega) (by omega) (by decide) (fun u C27 r27 d27 hu0 hu1 => ?_)
        have s := s.pick r27 d27
        have k33 := d27.kn k33 n33
        have k10 := d27.kn k10 n10
        have w3 := pl1 hu0 hu1
        repeat' (first | simp -implicitDefEqProofs only [zG1,zG2,zG3,zG4,zG5,zG6,zG7,eq_self,resV,rval,X.val,binv,fillL,setR,↓reduceIte,Nat.reduceEqDiff,Nat.reduceAdd,Nat.reduceMul,Nat.reduceLeDiff,Nat.reduceLT,Nat.reduceSub,reduceCtorEq,zGq, s.lp, w3])
        refine s.leaf fun A29 c29 C29 l s => ?_
        have k33 := k33.trans l
        have k10 := k10.trans l
        repeat' (first | simp -implicitDefEqProofs only [zG1,zG2,zG3,zG4,zG5,zG6,zG7,eq_self,resV,rval,X.val,binv,fillL,setR,↓reduceIte,Nat.reduceEqDiff,Nat.reduceAdd,Nat.reduceMul,Nat.reduceLeDiff,Nat.reduceLT,Nat.reduceSub,reduceCtorEq,zGq, s.lp])
        refine l4Both_ok _ _ _ 5 (.mk 13 3 []) (.mk 0 (1 + u) []) A25 A29 c25 c29 (fun z30 C30 t30 cc30 l hz30 k30 => ?_)
        have h30 := s.d.nov hz30
        have o30 := s.off hz30
        have s := s.le l
        have x30 : ¬ z30 = y10 := fun e => k10.ne (e ▸ hz30)
        have k33 := k33.trans l
        have k10 := k10.trans l
        repeat' (first | simp -implicitDefEqProofs only [zG1,zG2,zG3,zG4,zG5,zG6,zG7,eq_self,resV,rval,X.val,binv,fillL,setR,↓reduceIte,Nat.reduceEqDiff,Nat.reduceAdd,Nat.reduceMul,Nat.reduceLeDiff,Nat.reduceLT,Nat.reduceSub,reduceCtorEq,zGq, s.lp])
        refine s.more k33 (by omega) rfl fun A34 c34 C34 bs34 hc hn s => ?_
        have o34 := off_app k10 o10 hn
        have k10 := k10.chg hc o10
        have o10 := o34
        have k30 := k30.chg hc o30
        repeat' (first | simp -implicitDefEqProofs only [zG1,zG2,zG3,zG4,zG5,zG6,zG7,eq_self,resV,rval,X.val,binv,fillL,setR,↓reduceIte,Nat.reduceEqDiff,Nat.reduceAdd,Nat.reduceMul,Nat.reduceLeDiff,Nat.reduceLT,Nat.reduceSub,reduceCtorEq,zGq, s.lp])
        refine s.put k10 h10 p10 o10 (by simp [ocI, ocS]) fun C40 hc s cs => ?_
        have k30 := k30.chg hc (by simpa using x30)
        repeat' (first | simp -implicitDefEqProofs only [zG1,zG2,zG3,zG4,zG5,zG6,zG7,eq_self,resV,rval,X.val,binv,fillL,setR,↓reduceIte,Nat.reduceEqDiff,Nat.reduceAdd,Nat.reduceMul,Nat.reduceLeDiff,Nat.reduceLT,Nat.reduceSub,reduceCtorEq,zGq, s.lp, cs] | (with_reducible refine draw_at C40 (.refl _) ?_) | (with_reducible refine l4Leaf_ok _ _ _ _ _ (fun A37 c37 C37 l37 => ?_)) | (with_reducible refine ⟨l37, ?_⟩) | (with_reducible refine rows_intro (fun y hy => ?_)))
        exact ⟨l37.trans ((AHeap.le.refl C37).fresh hy _), ret_same (finL (A37 := A37) (c37 := c37) h (s.le l37) hs (k30.trans l37) h30 hbd (by omega) ⟨hu0, by omega⟩ (by omega) (by omega) hy)⟩
  · refine s.lit fun y33 C33 n33 l s k33 => ?_
    repeat' (first | simp -implicitDefEqProofs only [zG1,zG2,zG3,zG4,zG5,zG6,zG7,eq_self,resV,rval,X.val,binv,fillL,setR,↓reduceIte,Nat.reduceEqDiff,Nat.reduceAdd,Nat.reduceMul,Nat.reduceLeDiff,Nat.reduceLT,Nat.reduceSub,reduceCtorEq,zGq, s.lp])
    refine ⟨?_, ?_⟩
    · refine s.leaf fun A25 c25 C25 l s => ?_
      have k33 := k33.trans l
      repeat' (first | simp -implicitDefEqProofs only [zG1,zG2,zG3,zG4,zG5,zG6,zG7,eq_self,resV,rval,X.val,binv,fillL,setR,↓reduceIte,Nat.reduceEqDiff,Nat.reduceAdd,Nat.reduceMul,Nat.reduceLeDiff,Nat.reduceLT,Nat.reduceSub,reduceCtorEq,zGq, s.lp])
      refine ⟨?_, ?_⟩
      · refine pickK_ok _ _ s.r 3 (by omega) (by omega) (by decide) (fun u C27 r27 d27 hu0 hu1 => ?_)
        have s := s.pick r27 d27
        have k33 := d27.kn k33 n33
        have w3 := pl1 hu0 hu1
        repeat' (first | simp -implicitDefEqProofs only [zG1,zG2,zG3,zG4,zG5,zG6,zG7,eq_self,resV,rval,X.val,binv,fillL,setR,↓reduceIte,Nat.reduceEqDiff,Nat.reduceAdd,Nat.reduceMul,Nat.reduceLeDiff,Nat.reduceLT,Nat.reduceSub,reduceCtorEq,zGq, s.lp, w3])
        refine ⟨?_, ?_⟩
        · refine s.leaf fun A29 c29 C29 l s => ?_
          have k33 := k33.trans l
          repeat' (first | simp -implicitDefEqProofs only [zG1,zG2,zG3,zG4,zG5,zG6,zG7,eq_self,resV,rval,X.val,binv,fillL,setR,↓reduceIte,Nat.reduceEqDiff,Nat.reduceAdd,Nat.reduceMul,Nat.reduceLeDiff,Nat.reduceLT,Nat.reduceSub,reduceCtorEq,zGq, s.lp])
          refine ⟨?_, ?_⟩
          · refine l4Both_ok _ _ _ 5 (.mk 13 3 []) (.mk 0 (1 + u) []) A25 A29 c25 c29 (fun z30 C30 t30 cc30 l hz30 k30 => ?_)
            have h30 := s.d.nov hz30
            have o30 := s.off hz30
            have s := s.le l
            have k33 := k33.trans l
            repeat' (first | simp -implicitDefEqProofs only [zG1,zG2,zG3,zG4,zG5,zG6,zG7,eq_self,resV,rval,X.val,binv,fillL,setR,↓reduceIte,Nat.reduceEqDiff,Nat.reduceAdd,Nat.reduceMul,Nat.reduceLeDiff,Nat.reduceLT,Nat.reduceSub,reduceCtorEq,zGq, s.lp])
            refine ⟨?_, ?_⟩
            · refine s.more k33 (by omega) rfl fun A34 c34 C34 bs34 hc hn s => ?_
              have k30 := k30.chg hc o30
              repeat' (first | simp -implicitDefEqProofs only [zG1,zG2,zG3,zG4,zG5,zG6,zG7,eq_self,resV,rval,X.val,binv,fillL,setR,↓reduceIte,Nat.reduceEqDiff,Nat.reduceAdd,Nat.reduceMul,Nat.reduceLeDiff,Nat.reduceLT,Nat.reduceSub,reduceCtorEq,zGq, s.lp])
              refine s.new fun y10 C10 hy10 h10 p10 o10 n10 l s k10 => ?_
              have x30 : ¬ z30 = y10 := fun e => k30.ne (e ▸ hy10)
              have k30 := k30.trans l
              repeat' (first | simp -implicitDefEqProofs only [zG1,zG2,zG3,zG4,zG5,zG6,zG7,eq_self,resV,rval,X.val,binv,fillL,setR,↓reduceIte,Nat.reduceEqDiff,Nat.reduceAdd,Nat.reduceMul,Nat.reduceLeDiff,Nat.reduceLT,Nat.reduceSub,reduceCtorEq,zGq, s.lp])
              refine s.put k10 h10 p10 o10 (by simp [ocI, ocS]) fun C40 hc s cs => ?_
              have k30 := k30.chg hc (by simpa using x30)
              repeat' (first | simp -implicitDefEqProofs only [zG1,zG2,zG3,zG4,zG5,zG6,zG7,eq_self,resV,rval,X.val,binv,fillL,setR,↓reduceIte,Nat.reduceEqDiff,Nat.reduceAdd,Nat.reduceMul,Nat.reduceLeDiff,Nat.reduceLT,Nat.reduceSub,reduceCtorEq,zGq, s.lp, cs] | (with_reducible refine draw_at C40 (.refl _) ?_) | (with_reducible refine l4Leaf_ok _ _ _ _ _ (fun A37 c37 C37 l37 => ?_)) | (with_reducible refine ⟨l37, ?_⟩) | (with_reducible refine rows_intro (fun y hy => ?_)))
              exact ⟨l37.trans ((AHeap.le.refl C37).fresh hy _), ret_same (finL (A37 := A37) (c37 := c37) h (s.le l37) hs (k30.trans l37) h30 hbd (by omega) ⟨hu0, by omega⟩ (by omega) (by omega) hy)⟩
            · refine s.new fun y10 C10 hy10 h10 p10 o10 n10 l s k10 => ?_
              have x30 : ¬ z30 = y10 := fun e => k30.ne (e ▸ hy10)
              have k33 := k33.trans l
              have k30 := k30.trans l
              repeat' (first | simp -implicitDefEqProofs only [zG1,zG2,zG3,zG4,zG5,zG6,zG7,eq_self,resV,rval,X.val,binv,fillL,setR,↓reduceIte,Nat.reduceEqDiff,Nat.reduceAdd,Nat.reduceMul,Nat.reduceLeDiff,Nat.reduceLT,Nat.reduceSub,reduceCtorEq,zGq, s.lp])
              refine s.more k33 (by omega) rfl fun A34 c34 C34 bs34 hc hn s => ?_
              have o34 := off_app k10 o10 hn
              have k10 := k10.chg hc o10
              have o10 := o34
              have k30 := k30.chg hc o30
              repeat' (first | simp -implicitDefEqProofs only [zG1,zG2,zG3,zG4,zG5,zG6,zG7,eq_self,resV,rval,X.val,binv,fillL,setR,↓reduceIte,Nat.reduceEqDiff,Nat.reduceAdd,Nat.reduceMul,Nat.reduceLeDiff,Nat.reduceLT,Nat.reduceSub,reduceCtorEq,zGq, s.lp])
              refine s.put k10 h10 p10 o10 (by simp [ocI, ocS]) fun C40 hc s cs => ?_
              have k30 := k30.chg hc (by simpa using x30)
              repeat' (first | simp -implicitDefEqProofs only [zG1,zG2,zG3,zG4,zG5,zG6,zG7,eq_self,resV,rval,X.val,binv,fillL,setR,↓reduceIte,Nat.reduceEqDiff,Nat.reduceAdd,Nat.reduceMul,Nat.reduceLeDiff,Nat.reduceLT,Nat.reduceSub,reduceCtorEq,zGq, s.lp, cs] | (with_reducible refine draw_at C40 (.refl _) ?_) | (with_reducible refine l4Leaf_ok _ _ _ _ _ (fun A37 c37 C37 l37 => ?_)) | (with_reducible refine ⟨l37, ?_⟩) | (with_reducible refine rows_intro (fun y hy => ?_)))
              exact ⟨l37.trans ((AHeap.le.refl C37).fresh hy _), ret_same (finL (A37 := A37) (c37 := c37) h (s.le l37) hs (k30.trans l37) h30 hbd (by omega) ⟨hu0, by omega⟩ (by omega) (by omega) hy)⟩
          · refine s.new fun y10 C10 hy10 h10 p10 o10 n10 l s k10 => ?_
            have k33 := k33.trans l
            repeat' (first | simp -implicitDefEqProofs only [zG1,zG2,zG3,zG4,zG5,zG6,zG7,eq_self,resV,rval,X.val,binv,fillL,setR,↓reduceIte,Nat.reduceEqDiff,Nat.reduceAdd,Nat.reduceMul,Nat.reduceLeDiff,Nat.reduceLT,Nat.reduceSub,reduceCtorEq,zGq, s.lp])
            refine l4Both_ok _ _ _ 5 (.mk 13 3 []) (.mk 0 (1 + u) []) A25 A29 c25 c29 (fun z30 C30 t30 cc30 l hz30 k30 => ?_)
            have h30 := s.d.nov hz30
            have o30 := s.off hz30
            have s := s.le l
            have x30 : ¬ z30 = y10 := fun e => k10.ne (e ▸ hz30)
            have k33 := k33.trans l
            have k10 := k10.trans l
            repeat' (first | simp -implicitDefEqProofs only [zG1,zG2,zG3,zG4,zG5,zG6,zG7,eq_self,resV,rval,X.val,binv,fillL,setR,↓reduceIte,Nat.reduceEqDiff,Nat.reduceAdd,Nat.reduceMul,Nat.reduceLeDiff,Nat.reduceLT,Nat.reduceSub,reduceCtorEq,zGq, s.lp])
            refine s.more k33 (by omega) rfl fun A34 c34 C34 bs34 hc hn s => ?_
            have o34 := off_app k10 o10 hn
            have k10 := k10.chg hc o10
            have o10 := o34
            have k30 := k30.chg hc o30
            repeat' (first | simp -implicitDefEqProofs only [zG1,zG2,zG3,zG4,zG5,zG6,zG7,eq_self,resV,rval,X.val,binv,fillL,setR,↓reduceIte,Nat.reduceEqDiff,Nat.reduceAdd,Nat.reduceMul,Nat.reduceLeDiff,Nat.reduceLT,Nat.reduceSub,reduceCtorEq,zGq, s.lp])
            refine s.put k10 h10 p10 o10 (by simp [ocI, ocS]) fun C40 hc s cs => ?_
            have k30 := k30.chg hc (by simpa using x30)
            repeat' (first | simp -implicitDefEqProofs only [zG1,zG2,zG3,zG4,zG5,zG6,zG7,eq_self,resV,rval,X.val,binv,fillL,setR,↓reduceIte,Nat.reduceEqDiff,Nat.reduceAdd,Nat.reduceMul,Nat.reduceLeDiff,Nat.reduceLT,Nat.reduceSub,reduceCtorEq,zGq, s.lp, cs] | (with_reducible refine draw_at C40 (.refl _) ?_) | (with_reducible refine l4Leaf_ok _ _ _ _ _ (fun A37 c37 C37 l37 => ?_)) | (with_reducible refine ⟨l37, ?_⟩) | (with_reducible refine rows_intro (fun y hy => ?_)))
            exact ⟨l37.trans ((AHeap.le.refl C37).fresh hy _), ret_same (finL (A37 := A37) (c37 := c37) h (s.le l37) hs (k30.trans l37) h30 hbd (by omega) ⟨hu0, by omega⟩ (by omega) (by omega) hy)⟩
        · refine s.new fun y10 C10 hy10 h10 p10 o10 n10 l s k10 => ?_
          have k33 := k33.trans l
          repeat' (first | simp -implicitDefEqProofs only [zG1,zG2,zG3,zG4,zG5,zG6,zG7,eq_self,resV,rval,X.val,binv,fillL,setR,↓reduceIte,Nat.reduceEqDiff,Nat.reduceAdd,Nat.reduceMul,Nat.reduceLeDiff,Nat.reduceLT,Nat.reduceSub,reduceCtorEq,zGq, s.lp])
          refine s.leaf fun A29 c29 C29 l s => ?_
          have k33 := k33.trans l
          have k10 := k10.trans l
          repeat' (first | simp -implicitDefEqProofs only [zG1,zG2,zG3,zG4,zG5,zG6,zG7,eq_self,resV,rval,X.val,binv,fillL,setR,↓reduceIte,Nat.reduceEqDiff,Nat.reduceAdd,Nat.reduceMul,Nat.reduceLeDiff,Nat.reduceLT,Nat.reduceSub,reduceCtorEq,zGq, s.lp])
          refine l4Both_ok _ _ _ 5 (.mk 13 3 []) (.mk 0 (1 + u) []) A25 A29 c25 c29 (fun z30 C30 t30 cc30 l hz30 k30 => ?_)
          have h30 := s.d.nov hz30
          have o30 := s.off hz30
          have s := s.le l
          have x30 : ¬ z30 = y10 := fun e => k10.ne (e ▸ hz30)
          have k33 := k33.trans l
          have k10 := k10.trans l
          repeat' (first | simp -implicitDefEqProofs only [zG1,zG2,zG3,zG4,zG5,zG6,zG7,eq_self,resV,rval,X.val,binv,fillL,setR,↓reduceIte,Nat.reduceEqDiff,Nat.reduceAdd,Nat.reduceMul,Nat.reduceLeDiff,Nat.reduceLT,Nat.reduceSub,reduceCtorEq,zGq, s.lp])
          refine s.more k33 (by omega) rfl fun A34 c34 C34 bs34 hc hn s => ?_
          have o34 := off_app k10 o10 hn
          have k10 := k10.chg hc o10
          have o10 := o34
          have k30 := k30.chg hc o30
          repeat' (first | simp -implicitDefEqProofs only [zG1,zG2,zG3,zG4,zG5,zG6,zG7,eq_self,resV,rval,X.val,binv,fillL,setR,↓reduceIte,Nat.reduceEqDiff,Nat.reduceAdd,Nat.reduceMul,Nat.reduceLeDiff,Nat.reduceLT,Nat.reduceSub,reduceCtorEq,zGq, s.lp])
          refine s.put k10 h10 p10 o10 (by simp [ocI, ocS]) fun C40 hc s cs => ?_
          have k30 := k30.chg hc (by simpa using x30)
          repeat' (first | simp -implicitDefEqProofs only [zG1,zG2,zG3,zG4,zG5,zG6,zG7,eq_self,resV,rval,X.val,binv,fillL,setR,↓reduceIte,Nat.reduceEqDiff,Nat.reduceAdd,Nat.reduceMul,Nat.reduceLeDiff,Nat.reduceLT,Nat.reduceSub,reduceCtorEq,zGq, s.lp, cs] | (with_reducible refine draw_at C40 (.refl _) ?_) | (with_reducible refine l4Leaf_ok _ _ _ _ _ (fun A37 c37 C37 l37 => ?_)) | (with_reducible refine ⟨l37, ?_⟩) | (with_reducible refine rows_intro (fun y hy => ?_)))
          exact ⟨l37.trans ((AHeap.le.refl C37).fresh hy _), ret_same (finL (A37 := A37) (c37 := c37) h (s.le l37) hs (k30.trans l37) h30 hbd (by omega) ⟨hu0, by omega⟩ (by omega) (by omega) hy)⟩
      · refine s.new fun y10 C10 hy10 h10 p10 o10 n10 l s k10 => ?_
        have k33 := k33.trans l
        repeat' (first | simp -implicitDefEqProofs only [zG1,zG2,zG3,zG4,zG5,zG6,zG7,eq_self,resV,rval,X.val,binv,fillL,setR,↓reduceIte,Nat.reduceEqDiff,Nat.reduceAdd,Nat.reduceMul,Nat.reduceLeDiff,Nat.reduceLT,Nat.reduceSub,reduceCtorEq,zGq, s.lp])
        refine pickK_ok _ _ s.r 3 (by omega) (by omega) (by decide) (fun u C27 r27 d27 hu0 hu1 => ?_)
        have s := s.pick r27 d27
        have k33 := d27.kn k33 n33
        have k10 := d27.kn k10 n10
        have w3 := pl1 hu0 hu1
        repeat' (first | simp -implicitDefEqProofs only [zG1,zG2,zG3,zG4,zG5,zG6,zG7,eq_self,resV,rval,X.val,binv,fillL,setR,↓reduceIte,Nat.reduceEqDiff,Nat.reduceAdd,Nat.reduceMul,Nat.reduceLeDiff,Nat.reduceLT,Nat.reduceSub,reduceCtorEq,zGq, s.lp, w3])
        refine s.leaf fun A29 c29 C29 l s => ?_
        have k33 := k33.trans l
        have k10 := k10.trans l
        repeat' (first | simp -implicitDefEqProofs only [zG1,zG2,zG3,zG4,zG5,zG6,zG7,eq_self,resV,rval,X.val,binv,fillL,setR,↓reduceIte,Nat.reduceEqDiff,Nat.reduceAdd,Nat.reduceMul,Nat.reduceLeDiff,Nat.reduceLT,Nat.reduceSub,reduceCtorEq,zGq, s.lp])
        refine l4Both_ok _ _ _ 5 (.mk 13 3 []) (.mk 0 (1 + u) []) A25 A29 c25 c29 (fun z30 C30 t30 cc30 l hz30 k30 => ?_)
        have h30 := s.d.nov hz30
        have o30 := s.off hz30
        have s := s.le l
        have x30 : ¬ z30 = y10 := fun e => k10.ne (e ▸ hz30)
        have k33 := k33.trans l
        have k10 := k10.trans l
        repeat' (first | simp -implicitDefEqProofs only [zG1,zG2,zG3,zG4,zG5,zG6,zG7,eq_self,resV,rval,X.val,binv,fillL,setR,↓reduceIte,Nat.reduceEqDiff,Nat.reduceAdd,Nat.reduceMul,Nat.reduceLeDiff,Nat.reduceLT,Nat.reduceSub,reduceCtorEq,zGq, s.lp])
        refine s.more k33 (by omega) rfl fun A34 c34 C34 bs34 hc hn s => ?_
        have o34 := off_app k10 o10 hn
        have k10 := k10.chg hc o10
        have o10 := o34
        have k30 := k30.chg hc o30
        repeat' (first | simp -implicitDefEqProofs only [zG1,zG2,zG3,zG4,zG5,zG6,zG7,eq_self,resV,rval,X.val,binv,fillL,setR,↓reduceIte,Nat.reduceEqDiff,Nat.reduceAdd,Nat.reduceMul,Nat.reduceLeDiff,Nat.reduceLT,Nat.reduceSub,reduceCtorEq,zGq, s.lp])
        refine s.put k10 h10 p10 o10 (by simp [ocI, ocS]) fun C40 hc s cs => ?_
        have k30 := k30.chg hc (by simpa using x30)
        repeat' (first | simp -implicitDefEqProofs only [zG1,zG2,zG3,zG4,zG5,zG6,zG7,eq_self,resV,rval,X.val,binv,fillL,setR,↓reduceIte,Nat.reduceEqDiff,Nat.reduceAdd,Nat.reduceMul,Nat.reduceLeDiff,Nat.reduceLT,Nat.reduceSub,reduceCtorEq,zGq, s.lp, cs] | (with_reducible refine draw_at C40 (.refl _) ?_) | (with_reducible refine l4Leaf_ok _ _ _ _ _ (fun A37 c37 C37 l37 => ?_)) | (with_reducible refine ⟨l37, ?_⟩) | (with_reducible refine rows_intro (fun y hy => ?_)))
        exact ⟨l37.trans ((AHeap.le.refl C37).fresh hy _), ret_same (finL (A37 := A37) (c37 := c37) h (s.le l37) hs (k30.trans l37) h30 hbd (by omega) ⟨hu0, by omega⟩ (by omega) (by omega) hy)⟩
    · refine s.new fun y10 C10 hy10 h10 p10 o10 n10 l s k10 => ?_
      have k33 := k33.trans l
      repeat' (first | simp -implicitDefEqProofs only [zG1,zG2,zG3,zG4,zG5,zG6,zG7,eq_self,resV,rval,X.val,binv,fillL,setR,↓reduceIte,Nat.reduceEqDiff,Nat.reduceAdd,Nat.reduceMul,Nat.reduceLeDiff,Nat.reduceLT,Nat.reduceSub,reduceCtorEq,zGq, s.lp])
      refine s.leaf fun A25 c25 C25 l s => ?_
      have k33 := k33.trans l
      have k10 := k10.trans l
      repeat' (first | simp -implicitDefEqProofs only [zG1,zG2,zG3,zG4,zG5,zG6,zG7,eq_self,resV,rval,X.val,binv,fillL,setR,↓reduceIte,Nat.reduceEqDiff,Nat.reduceAdd,Nat.reduceMul,Nat.reduceLeDiff,Nat.reduceLT,Nat.reduceSub,reduceCtorEq,zGq, s.lp])
      refine pickK_ok _ _ s.r 3 (by omega) (by omega) (by decide) (fun u C27 r27 d27 hu0 hu1 => ?_)
      have s := s.pick r27 d27
      have k33 := d27.kn k33 n33
      have k10 := d27.kn k10 n10
      have w3 := pl1 hu0 hu1
      repeat' (first | simp -implicitDefEqProofs only [zG1,zG2,zG3,zG4,zG5,zG6,zG7,eq_self,resV,rval,X.val,binv,fillL,setR,↓reduceIte,Nat.reduceEqDiff,Nat.reduceAdd,Nat.reduceMul,Nat.reduceLeDiff,Nat.reduceLT,Nat.reduceSub,reduceCtorEq,zGq, s.lp, w3])
      refine s.leaf fun A29 c29 C29 l s => ?_
      have k33 := k33.trans l
      have k10 := k10.trans l
      repeat' (first | simp -implicitDefEqProofs only [zG1,zG2,zG3,zG4,zG5,zG6,zG7,eq_self,resV,rval,X.val,binv,fillL,setR,↓reduceIte,Nat.reduceEqDiff,Nat.reduceAdd,Nat.reduceMul,Nat.reduceLeDiff,Nat.reduceLT,Nat.reduceSub,reduceCtorEq,zGq, s.lp])
      refine l4Both_ok _ _ _ 5 (.mk 13 3 []) (.mk 0 (1 + u) []) A25 A29 c25 c29 (fun z30 C30 t30 cc30 l hz30 k30 => ?_)
      have h30 := s.d.nov hz30
      have o30 := s.off hz30
      have s := s.le l
      have x30 : ¬ z30 = y10 := fun e => k10.ne (e ▸ hz30)
      have k33 := k33.trans l
      have k10 := k10.trans l
      repeat' (first | simp -implicitDefEqProofs only [zG1,zG2,zG3,zG4,zG5,zG6,zG7,eq_self,resV,rval,X.val,binv,fillL,setR,↓reduceIte,Nat.reduceEqDiff,Nat.reduceAdd,Nat.reduceMul,Nat.reduceLeDiff,Nat.reduceLT,Nat.reduceSub,reduceCtorEq,zGq, s.lp])
      refine s.more k33 (by omega) rfl fun A34 c34 C34 bs34 hc hn s => ?_
      have o34 := off_app k10 o10 hn
      have k10 := k10.chg hc o10
      have o10 := o34
      have k30 := k30.chg hc o30
      repeat' (first | simp -implicitDefEqProofs only [zG1,zG2,zG3,zG4,zG5,zG6,zG7,eq_self,resV,rval,X.val,binv,fillL,setR,↓reduceIte,Nat.reduceEqDiff,Nat.reduceAdd,Nat.reduceMul,Nat.reduceLeDiff,Nat.reduceLT,Nat.reduceSub,reduceCtorEq,zGq, s.lp])
      refine s.put k10 h10 p10 o10 (by simp [ocI, ocS]) fun C40 hc s cs => ?_
      have k30 := k30.chg hc (by simpa using x30)
      repeat' (first | simp -implicitDefEqProofs only [zG1,zG2,zG3,zG4,zG5,zG6,zG7,eq_self,resV,rval,X.val,binv,fillL,setR,↓reduceIte,Nat.reduceEqDiff,Nat.reduceAdd,Nat.reduceMul,Nat.reduceLeDiff,Nat.reduceLT,Nat.reduceSub,reduceCtorEq,zGq, s.lp, cs] | (with_reducible refine draw_at C40 (.refl _) ?_) | (with_reducible refine l4Leaf_ok _ _ _ _ _ (fun A37 c37 C37 l37 => ?_)) | (with_reducible refine ⟨l37, ?_⟩) | (with_reducible refine rows_intro (fun y hy => ?_)))
      exact ⟨l37.trans ((AHeap.le.refl C37).fresh hy _), ret_same (finL (A37 := A37) (c37 := c37) h (s.le l37) hs (k30.trans l37) h30 hbd (by omega) ⟨hu0, by omega⟩ (by omega) (by omega) hy)⟩
  · refine s.new fun y10 C10 hy10 h10 p10 o10 n10 l s k10 => ?_
    repeat' (first | simp -implicitDefEqProofs only [zG1,zG2,zG3,zG4,zG5,zG6,zG7,eq_self,resV,rval,X.val,binv,fillL,setR,↓reduceIte,Nat.reduceEqDiff,Nat.reduceAdd,Nat.reduceMul,Nat.reduceLeDiff,Nat.reduceLT,Nat.reduceSub,reduceCtorEq,zGq, s.lp])
    refine ⟨?_, ?_⟩
    · refine s.leaf fun A25 c25 C25 l s => ?_
      have k10 := k10.trans l
      repeat' (first | simp -implicitDefEqProofs only [zG1,zG2,zG3,zG4,zG5,zG6,zG7,eq_self,resV,rval,X.val,binv,fillL,setR,↓reduceIte,Nat.reduceEqDiff,Nat.reduceAdd,Nat.reduceMul,Nat.reduceLeDiff,Nat.reduceLT,Nat.reduceSub,reduceCtorEq,zGq, s.lp])
      refine ⟨?_, ?_⟩
      · refine pickK_ok _ _ s.r 3 (by omega) (by omega) (by decide) (fun u C27 r27 d27 hu0 hu1 => ?_)
        have s := s.pick r27 d27
        have k10 := d27.kn k10 n10
        have w3 := pl1 hu0 hu1
        repeat' (first | simp -implicitDefEqProofs only [zG1,zG2,zG3,zG4,zG5,zG6,zG7,eq_self,resV,rval,X.val,binv,fillL,setR,↓reduceIte,Nat.reduceEqDiff,Nat.reduceAdd,Nat.reduceMul,Nat.reduceLeDiff,Nat.reduceLT,Nat.reduceSub,reduceCtorEq,zGq, s.lp, w3])
        refine ⟨?_, ?_⟩
        · refine s.leaf fun A29 c29 C29 l s => ?_
          have k10 := k10.trans l
          repeat' (first | simp -implicitDefEqProofs only [zG1,zG2,zG3,zG4,zG5,zG6,zG7,eq_self,resV,rval,X.val,binv,fillL,setR,↓reduceIte,Nat.reduceEqDiff,Nat.reduceAdd,Nat.reduceMul,Nat.reduceLeDiff,Nat.reduceLT,Nat.reduceSub,reduceCtorEq,zGq, s.lp])
          refine ⟨?_, ?_⟩
          · refine l4Both_ok _ _ _ 5 (.mk 13 3 []) (.mk 0 (1 + u) []) A25 A29 c25 c29 (fun z30 C30 t30 cc30 l hz30 k30 => ?_)
            have h30 := s.d.nov hz30
            have o30 := s.off hz30
            have s := s.le l
            have x30 : ¬ z30 = y10 := fun e => k10.ne (e ▸ hz30)
            have k10 := k10.trans l
            repeat' (first | simp -implicitDefEqProofs only [zG1,zG2,zG3,zG4,zG5,zG6,zG7,eq_self,resV,rval,X.val,binv,fillL,setR,↓reduceIte,Nat.reduceEqDiff,Nat.reduceAdd,Nat.reduceMul,Nat.reduceLeDiff,Nat.reduceLT,Nat.reduceSub,reduceCtorEq,zGq, s.lp])
            refine s.lit fun y33 C33 n33 l s k33 => ?_
            have k10 := k10.trans l
            have k30 := k30.trans l
            repeat' (first | simp -implicitDefEqProofs only [zG1,zG2,zG3,zG4,zG5,zG6,zG7,eq_self,resV,rval,X.val,binv,fillL,setR,↓reduceIte,Nat.reduceEqDiff,Nat.reduceAdd,Nat.reduceMul,Nat.reduceLeDiff,Nat.reduceLT,Nat.reduceSub,reduceCtorEq,zGq, s.lp])
            refine s.more k33 (by omega) rfl fun A34 c34 C34 bs34 hc hn s => ?_
            have o34 := off_app k10 o10 hn
            have k10 := k10.chg hc o10
            have o10 := o34
            have k30 := k30.chg hc o30
            repeat' (first | simp -implicitDefEqProofs only [zG1,zG2,zG3,zG4,zG5,zG6,zG7,eq_self,resV,rval,X.val,binv,fillL,setR,↓reduceIte,Nat.reduceEqDiff,Nat.reduceAdd,Nat.reduceMul,Nat.reduceLeDiff,Nat.reduceLT,Nat.reduceSub,reduceCtorEq,zGq, s.lp])
            refine s.put k10 h10 p10 o10 (by simp [ocI, ocS]) fun C40 hc s cs => ?_
            have k30 := k30.chg hc (by simpa using x30)
            repeat' (first | simp -implicitDefEqProofs only [zG1,zG2,zG3,zG4,zG5,zG6,zG7,eq_self,resV,rval,X.val,binv,fillL,setR,↓reduceIte,Nat.reduceEqDiff,Nat.reduceAdd,Nat.reduceMul,Nat.reduceLeDiff,Nat.reduceLT,Nat.reduceSub,reduceCtorEq,zGq, s.lp, cs] | (with_reducible refine draw_at C40 (.refl _) ?_) | (with_reducible refine l4Leaf_ok _ _ _ _ _ (fun A37 c37 C37 l37 => ?_)) | (with_reducible refine ⟨l37, ?_⟩) | (with_reducible refine rows_intro (fun y hy => ?_)))
            exact ⟨l37.trans ((AHeap.le.refl C37).fresh hy _), ret_same (finL (A37 := A37) (c37 := c37) h (s.le l37) hs (k30.trans l37) h30 hbd (by omega) ⟨hu0, by omega⟩ (by omega) (by omega) hy)⟩
          · refine s.lit fun y33 C33 n33 l s k33 => ?_
            have k10 := k10.trans l
            repeat' (first | simp -implicitDefEqProofs only [zG1,zG2,zG3,zG4,zG5,zG6,zG7,eq_self,resV,rval,X.val,binv,fillL,setR,↓reduceIte,Nat.reduceEqDiff,Nat.reduceAdd,Nat.reduceMul,Nat.reduceLeDiff,Nat.reduceLT,Nat.reduceSub,reduceCtorEq,zGq, s.lp])
            refine l4Both_ok _ _ _ 5 (.mk 13 3 []) (.mk 0 (1 + u) []) A25 A29 c25 c29 (fun z30 C30 t30 cc30 l hz30 k30 => ?_)
            have h30 := s.d.nov hz30
            have o30 := s.off hz30
            have s := s.le l
            have x30 : ¬ z30 = y10 := fun e => k10.ne (e ▸ hz30)
            have k33 := k33.trans l
            have k10 := k10.trans l
            repeat' (first | simp -implicitDefEqProofs only [zG1,zG2,zG3,zG4,zG5,zG6,zG7,eq_self,resV,rval,X.val,binv,fillL,setR,↓reduceIte,Nat.reduceEqDiff,Nat.reduceAdd,Nat.reduceMul,Nat.reduceLeDiff,Nat.reduceLT,Nat.reduceSub,reduceCtorEq,zGq, s.lp])
            refine s.more k33 (by omega) rfl fun A34 c34 C34 bs34 hc hn s => ?_
            have o34 := off_app k10 o10 hn
            have k10 := k10.chg hc o10
            have o10 := o34
            have k30 := k30.chg hc o30
            repeat' (first | simp -implicitDefEqProofs only [zG1,zG2,zG3,zG4,zG5,zG6,zG7,eq_self,resV,rval,X.val,binv,fillL,setR,↓reduceIte,Nat.reduceEqDiff,Nat.reduceAdd,Nat.reduceMul,Nat.reduceLeDiff,Nat.reduceLT,Nat.reduceSub,reduceCtorEq,zGq, s.lp])
            refine s.put k10 h10 p10 o10 (by simp [ocI, ocS]) fun C40 hc s cs => ?_
            have k30 := k30.chg hc (by simpa using x30)
            repeat' (first | simp -implicitDefEqProofs only [zG1,zG2,zG3,zG4,zG5,zG6,zG7,eq_self,resV,rval,X.val,binv,fillL,setR,↓reduceIte,Nat.reduceEqDiff,Nat.reduceAdd,Nat.reduceMul,Nat.reduceLeDiff,Nat.reduceLT,Nat.reduceSub,reduceCtorEq,zGq, s.lp, cs] | (with_reducible refine draw_at C40 (.refl _) ?_) | (with_reducible refine l4Leaf_ok _ _ _ _ _ (fun A37 c37 C37 l37 => ?_)) | (with_reducible refine ⟨l37, ?_⟩) | (with_reducible refine rows_intro (fun y hy => ?_)))
            exact ⟨l37.trans ((AHeap.le.refl C37).fresh hy _), ret_same (finL (A37 := A37) (c37 := c37) h (s.le l37) hs (k30.trans l37) h30 hbd (by omega) ⟨hu0, by omega⟩ (by omega) (by omega) hy)⟩
        · refine s.lit fun y33 C33 n33 l s k33 => ?_
          have k10 := k10.trans l
          repeat' (first | simp -implicitDefEqProofs only [zG1,zG2,zG3,zG4,zG5,zG6,zG7,eq_self,resV,rval,X.val,binv,fillL,setR,↓reduceIte,Nat.reduceEqDiff,Nat.reduceAdd,Nat.reduceMul,Nat.reduceLeDiff,Nat.reduceLT,Nat.reduceSub,reduceCtorEq,zGq, s.lp])
          refine s.leaf fun A29 c29 C29 l s => ?_
          have k33 := k33.trans l
          have k10 := k10.trans l
          repeat' (first | simp -implicitDefEqProofs only [zG1,zG2,zG3,zG4,zG5,zG6,zG7,eq_self,resV,rval,X.val,binv,fillL,setR,↓reduceIte,Nat.reduceEqDiff,Nat.reduceAdd,Nat.reduceMul,Nat.reduceLeDiff,Nat.reduceLT,Nat.reduceSub,reduceCtorEq,zGq, s.lp])
          refine l4Both_ok _ _ _ 5 (.mk 13 3 []) (.mk 0 (1 + u) []) A25 A29 c25 c29 (fun z30 C30 t30 cc30 l hz30 k30 => ?_)
          have h30 := s.d.nov hz30
          have o30 := s.off hz30
          have s := s.le l
          have x30 : ¬ z30 = y10 := fun e => k10.ne (e ▸ hz30)
          have k33 := k33.trans l
          have k10 := k10.trans l
          repeat' (first | simp -implicitDefEqProofs only [zG1,zG2,zG3,zG4,zG5,zG6,zG7,eq_self,resV,rval,X.val,binv,fillL,setR,↓reduceIte,Nat.reduceEqDiff,Nat.reduceAdd,Nat.reduceMul,Nat.reduceLeDiff,Nat.reduceLT,Nat.reduceSub,reduceCtorEq,zGq, s.lp])
          refine s.more k33 (by omega) rfl fun A34 c34 C34 bs34 hc hn s => ?_
          have o34 := off_app k10 o10 hn
          have k10 := k10.chg hc o10
          have o10 := o34
          have k30 := k30.chg hc o30
          repeat' (first | simp -implicitDefEqProofs only [zG1,zG2,zG3,zG4,zG5,zG6,zG7,eq_self,resV,rval,X.val,binv,fillL,setR,↓reduceIte,Nat.reduceEqDiff,Nat.reduceAdd,Nat.reduceMul,Nat.reduceLeDiff,Nat.reduceLT,Nat.reduceSub,reduceCtorEq,zGq, s.lp])
          refine s.put k10 h10 p10 o10 (by simp [ocI, ocS]) fun C40 hc s cs => ?_
          have k30 := k30.chg hc (by simpa using x30)
          repeat' (first | simp -implicitDefEqProofs only [zG1,zG2,zG3,zG4,zG5,zG6,zG7,eq_self,resV,rval,X.val,binv,fillL,setR,↓reduceIte,Nat.reduceEqDiff,Nat.reduceAdd,Nat.reduceMul,Nat.reduceLeDiff,Nat.reduceLT,Nat.reduceSub,reduceCtorEq,zGq, s.lp, cs] | (with_reducible refine draw_at C40 (.refl _) ?_) | (with_reducible refine l4Leaf_ok _ _ _ _ _ (fun A37 c37 C37 l37 => ?_)) | (with_reducible refine ⟨l37, ?_⟩) | (with_reducible refine rows_intro (fun y hy => ?_)))
          exact ⟨l37.trans ((AHeap.le.refl C37).fresh hy _), ret_same (finL (A37 := A37) (c37 := c37) h (s.le l37) hs (k30.trans l37) h30 hbd (by omega) ⟨hu0, by omega⟩ (by omega) (by omega) hy)⟩
      · refine s.lit fun y33 C33 n33 l s k33 => ?_
        have k10 := k10.trans l
        repeat' (first | simp -implicitDefEqProofs only [zG1,zG2,zG3,zG4,zG5,zG6,zG7,eq_self,resV,rval,X.val,binv,fillL,setR,↓reduceIte,Nat.reduceEqDiff,Nat.reduceAdd,Nat.reduceMul,Nat.reduceLeDiff,Nat.reduceLT,Nat.reduceSub,reduceCtorEq,zGq, s.lp])
        refine pickK_ok _ _ s.r 3 (by omega) (by omega) (by decide) (fun u C27 r27 d27 hu0 hu1 => ?_)
        have s := s.pick r27 d27
        have k33 := d27.kn k33 n33
        have k10 := d27.kn k10 n10
        have w3 := pl1 hu0 hu1
        repeat' (first | simp -implicitDefEqProofs only [zG1,zG2,zG3,zG4,zG5,zG6,zG7,eq_self,resV,rval,X.val,binv,fillL,setR,↓reduceIte,Nat.reduceEqDiff,Nat.reduceAdd,Nat.reduceMul,Nat.reduceLeDiff,Nat.reduceLT,Nat.reduceSub,reduceCtorEq,zGq, s.lp, w3])
        refine s.leaf fun A29 c29 C29 l s => ?_
        have k33 := k33.trans l
        have k10 := k10.trans l
        repeat' (first | simp -implicitDefEqProofs only [zG1,zG2,zG3,zG4,zG5,zG6,zG7,eq_self,resV,rval,X.val,binv,fillL,setR,↓reduceIte,Nat.reduceEqDiff,Nat.reduceAdd,Nat.reduceMul,Nat.reduceLeDiff,Nat.reduceLT,Nat.reduceSub,reduceCtorEq,zGq, s.lp])
        refine l4Both_ok _ _ _ 5 (.mk 13 3 []) (.mk 0 (1 + u) []) A25 A29 c25 c29 (fun z30 C30 t30 cc30 l hz30 k30 => ?_)
        have h30 := s.d.nov hz30
        have o30 := s.off hz30
        have s := s.le l
        have x30 : ¬ z30 = y10 := fun e => k10.ne (e ▸ hz30)
        have k33 := k33.trans l
        have k10 := k10.trans l
        repeat' (first | simp -implicitDefEqProofs only [zG1,zG2,zG3,zG4,zG5,zG6,zG7,eq_self,resV,rval,X.val,binv,fillL,setR,↓reduceIte,Nat.reduceEqDiff,Nat.reduceAdd,Nat.reduceMul,Nat.reduceLeDiff,Nat.reduceLT,Nat.reduceSub,reduceCtorEq,zGq, s.lp])
        refine s.more k33 (by omega) rfl fun A34 c34 C34 bs34 hc hn s => ?_
        have o34 := off_app k10 o10 hn
        have k10 := k10.chg hc o10
        have o10 := o34
        have k30 := k30.chg hc o30
        repeat' (first | simp -implicitDefEqProofs only [zG1,zG2,zG3,zG4,zG5,zG6,zG7,eq_self,resV,rval,X.val,binv,fillL,setR,↓reduceIte,Nat.reduceEqDiff,Nat.reduceAdd,Nat.reduceMul,Nat.reduceLeDiff,Nat.reduceLT,Nat.reduceSub,reduceCtorEq,zGq, s.lp])
        refine s.put k10 h10 p10 o10 (by simp [ocI, ocS]) fun C40 hc s cs => ?_
        have k30 := k30.chg hc (by simpa using x30)
        repeat' (first | simp -implicitDefEqProofs only [zG1,zG2,zG3,zG4,zG5,zG6,zG7,eq_self,resV,rval,X.val,binv,fillL,setR,↓reduceIte,Nat.reduceEqDiff,Nat.reduceAdd,Nat.reduceMul,Nat.reduceLeDiff,Nat.reduceLT,Nat.reduceSub,reduceCtorEq,zGq, s.lp, cs] | (with_reducible refine draw_at C40 (.refl _) ?_) | (with_reducible refine l4Leaf_ok _ _ _ _ _ (fun A37 c37 C37 l37 => ?_)) | (with_reducible refine ⟨l37, ?_⟩) | (with_reducible refine rows_intro (fun y hy => ?_)))
        exact ⟨l37.trans ((AHeap.le.refl C37).fresh hy _), ret_same (finL (A37 := A37) (c37 := c37) h (s.le l37) hs (k30.trans l37) h30 hbd (by omega) ⟨hu0, by omega⟩ (by omega) (by omega) hy)⟩
    · refine s.lit fun y33 C33 n33 l s k33 => ?_
      have k10 := k10.trans l
      repeat' (first | simp -implicitDefEqProofs only [zG1,zG2,zG3,zG4,zG5,zG6,zG7,eq_self,resV,rval,X.val,binv,fillL,setR,↓reduceIte,Nat.reduceEqDiff,Nat.reduceAdd,Nat.reduceMul,Nat.reduceLeDiff,Nat.reduceLT,Nat.reduceSub,reduceCtorEq,zGq, s.lp])
      refine s.leaf fun A25 c25 C25 l s => ?_
      have k33 := k33.trans l
      have k10 := k10.trans l
      repeat' (first | simp -implicitDefEqProofs only [zG1,zG2,zG3,zG4,zG5,zG6,zG7,eq_self,resV,rval,X.val,binv,fillL,setR,↓reduceIte,Nat.reduceEqDiff,Nat.reduceAdd,Nat.reduceMul,Nat.reduceLeDiff,Nat.reduceLT,Nat.reduceSub,reduceCtorEq,zGq, s.lp])
      refine pickK_ok _ _ s.r 3 (by omega) (by omega) (by decide) (fun u C27 r27 d27 hu0 hu1 => ?_)
      have s := s.pick r27 d27
      have k33 := d27.kn k33 n33
      have k10 := d27.kn k10 n10
      have w3 := pl1 hu0 hu1
      repeat' (first | simp -implicitDefEqProofs only [zG1,zG2,zG3,zG4,zG5,zG6,zG7,eq_self,resV,rval,X.val,binv,fillL,setR,↓reduceIte,Nat.reduceEqDiff,Nat.reduceAdd,Nat.reduceMul,Nat.reduceLeDiff,Nat.reduceLT,Nat.reduceSub,reduceCtorEq,zGq, s.lp, w3])
      refine s.leaf fun A29 c29 C29 l s => ?_
      have k33 := k33.trans l
      have k10 := k10.trans l
      repeat' (first | simp -implicitDefEqProofs only [zG1,zG2,zG3,zG4,zG5,zG6,zG7,eq_self,resV,rval,X.val,binv,fillL,setR,↓reduceIte,Nat.reduceEqDiff,Nat.reduceAdd,Nat.reduceMul,Nat.reduceLeDiff,Nat.reduceLT,Nat.reduceSub,reduceCtorEq,zGq, s.lp])
      refine l4Both_ok _ _ _ 5 (.mk 13 3 []) (.mk 0 (1 + u) []) A25 A29 c25 c29 (fun z30 C30 t30 cc30 l hz30 k30 => ?_)
      have h30 := s.d.nov hz30
      have o30 := s.off hz30
      have s := s.le l
      have x30 : ¬ z30 = y10 := fun e => k10.ne (e ▸ hz30)
      have k33 := k33.trans l
      have k10 := k10.trans l
      repeat' (first | simp -implicitDefEqProofs only [zG1,zG2,zG3,zG4,zG5,zG6,zG7,eq_self,resV,rval,X.val,binv,fillL,setR,↓reduceIte,Nat.reduceEqDiff,Nat.reduceAdd,Nat.reduceMul,Nat.reduceLeDiff,Nat.reduceLT,Nat.reduceSub,reduceCtorEq,zGq, s.lp])
      refine s.more k33 (by omega) rfl fun A34 c34 C34 bs34 hc hn s => ?_
      have o34 := off_app k10 o10 hn
      have k10 := k10.chg hc o10
      have o10 := o34
      have k30 := k30.chg hc o30
      repeat' (first | simp -implicitDefEqProofs only [zG1,zG2,zG3,zG4,zG5,zG6,zG7,eq_self,resV,rval,X.val,binv,fillL,setR,↓reduceIte,Nat.reduceEqDiff,Nat.reduceAdd,Nat.reduceMul,Nat.reduceLeDiff,Nat.reduceLT,Nat.reduceSub,reduceCtorEq,zGq, s.lp])
      refine s.put k10 h10 p10 o10 (by simp [ocI, ocS]) fun C40 hc s cs => ?_
      have k30 := k30.chg hc (by simpa using x30)
      repeat' (first | simp -implicitDefEqProofs only [zG1,zG2,zG3,zG4,zG5,zG6,zG7,eq_self,resV,rval,X.val,binv,fillL,setR,↓reduceIte,Nat.reduceEqDiff,Nat.reduceAdd,Nat.reduceMul,Nat.reduceLeDiff,Nat.reduceLT,Nat.reduceSub,reduceCtorEq,zGq, s.lp, cs] | (with_reducible refine draw_at C40 (.refl _) ?_) | (with_reducible refine l4Leaf_ok _ _ _ _ _ (fun A37 c37 C37 l37 => ?_)) | (with_reducible refine ⟨l37, ?_⟩) | (with_reducible refine rows_intro (fun y hy => ?_)))
      exact ⟨l37.trans ((AHeap.le.refl C37).fresh hy _), ret_same (finL (A37 := A37) (c37 := c37) h (s.le l37) hs (k30.trans l37) h30 hbd (by omega) ⟨hu0, by omega⟩ (by omega) (by omega) hy)⟩
end Go.Proofs.YtodhkodhndbpmaaGreat
namespace Go.Proofs.YtodhkodhndbpmaaGreat
set_option linter.all false
open Go Go.RowKit
set_option maxRecDepth 100000
variable (w0 : World)
abbrev StmP (d : Nat) : Prop := ∀ (S : Src) (b : Nat) (H : AHeap) (K : Value → AHeap → Prop) (p B : Int) (loops : Bool), RdK S H b p → B ≤ 3 → 0 ≤ p → p + pB d ≤ 1099511600000 → OutL S b H p d (cB d) (pB d) K →
  ACalls Tryz.prog w0 71 [.pointer (some ⟨b, 0, none⟩), .int .i64 B, .int .i64 d, .bool loops] H K
theorem lit_one {S : Src} {H C : AHeap} {b y : Nat} {p q : Int} {cm pm d : Nat} {K : Value → AHeap → Prop} (h : OutL S b H p d cm pm K) (s : St) {A0 : Option Addr} {c0 : Nat} {A1 : Option Addr} {c1 : Nat} {A2 : Option Addr} {c2 : Nat} (hr : RdK S C b q) (hd : Dr H C b)
    (hs : StV (C.off H) s (stc s.kind s.var s.box s.e s.body.length s.els.length A0 c0 A1 c1 A2 c2)) (ho : stOk d s = true) (hc : s.cnt ≤ cm) (hp0 : p ≤ q) (hp1 : q ≤ p + pm) (hy : C y = none) :
    K (.slice (some ⟨y, 0, none⟩) 1 1) (C.set y ⟨stc s.kind s.var s.box s.e s.body.length s.els.length A0 c0 A1 c1 A2 c2, true, 75, 8⟩) := by
  have ly := (AHeap.le.refl C).fresh hy ⟨stc s.kind s.var s.box s.e s.body.length s.els.length A0 c0 A1 c1 A2 c2, true, 75, 8⟩
  have ky := kn_off (H := H) (hd.nov hy) (Kn.same C y ⟨stc s.kind s.var s.box s.e s.body.length s.els.length A0 c0 A1 c1 A2 c2, true, 75, 8⟩)
  refine h [s] (some ⟨y, 0, none⟩) 1 _ q (hr.le ly) (hd.then_le ly) ?_ (by simp [ho]) (by simp) (by simp [cntL]; exact hc) hp0 hp1
  exact (StL.one (hs.le (off_sub ly))).str (ky.fl fun _ _ h => h)
theorem stmP_of (d : Nat) (hd3 : d ≤ 3) (ih : ∀ d', d = d' + 1 → BlkP w0 d') : StmP w0 d := by
  intro S b H K p B loops hr hB h0 h1 h
  have hT := pB_ge d
  have hC := cB_ge d
  refine acalls_of_sx mix Tryz.func71 of71 (by simp [ir71]) ?_; rw [ir71]; (try delta qT qI qC qO qM qG)
  repeat' (first | simp -implicitDefEqProofs only [zG1,zG2,zG3,zG4,zG5,zG6,zG7,eq_self,resV,rval,X.val,binv,fillL,setR,↓reduceIte,Nat.reduceEqDiff,Nat.reduceAdd,Nat.reduceMul,Nat.reduceLeDiff,Nat.reduceLT,Nat.reduceSub,reduceCtorEq,zGq] | ((with_reducible refine rows_intro (fun _ hb => ?_)); try simp only [set_none, ne_eq] at hb) | ((with_reducible refine new_intro (fun _ hb => ?_)); try simp only [set_none, ne_eq] at hb) | (with_reducible refine draw_same ?_) | ((with_reducible refine gd_split ?_ (fun _ => ?_) (fun _ => ?_)); exact rfl) | ((with_reducible refine td_split ?_ (fun _ => ?_) (fun _ => ?_)); exact rfl) | (with_reducible refine c_split (fun _ => ?_) (fun _ => ?_)))
  refine pickK_ok _ _ hr 10 (by omega) (by omega) (by decide) (fun v C1 r1 d1 hv0 hv1 => ?_)
  have one : ∀ (D : Value → AHeap → Prop), (∀ (s : St) (A0 : Option Addr) (c0 : Nat) (A1 : Option Addr) (c1 : Nat) (A2 : Option Addr) (c2 : Nat) (C : AHeap), (∀ y, C y = none → K (.slice (some ⟨y, 0, none⟩) 1 1) (C.set y ⟨stc s.kind s.var s.box s.e s.body.length s.els.length A0 c0 A1 c1 A2 c2, true, 75, 8⟩)) → D (stv s.kind s.var s.box s.e s.body.length s.els.length A0 c0 A1 c1 A2 c2) C) →
      Out1 S b C1 (p + 1) d (cB d) (pB d - 1) D := by
    intro D hD s A0 c0 A1 c1 A2 c2 C2 p2 r2 d2 hs ho hc hp0 hp1
    exact hD s A0 c0 A1 c1 A2 c2 C2 fun y hy => lit_one h s r2 (d1.trans d2) (hs.le (d1.off_r d2)) ho hc (by omega) (by omega) hy
  have print : ∀ (D : Value → AHeap → Prop), (∀ j : Nat, ∀ C3, j < 3 → RdK S C3 b (p + 2) → Dr H C3 b → D (.int .i64 j) C3) → ACalls Tryz.prog w0 40 [.pointer (some ⟨b, 0, none⟩), .int .i64 3] C1 D := by
    intro D hD
    refine pickK_ok _ _ r1 3 (by omega) (by omega) (by decide) (fun u C3 r3 d3 hu0 hu1 => ?_)
    obtain ⟨j, rfl⟩ := nat3 hu0
    exact hD j C3 (by omega) (by rw [show p + 2 = p + 1 + 1 by omega]; exact r3) (d1.trans d3)
  have pexpr : ∀ (j : Nat) (C3 : AHeap) (D : Value → AHeap → Prop), j < 3 → RdK S C3 b (p + 2) → Dr H C3 b → (∀ (e : Ex) (A : Option Addr) (c : Nat) (C : AHeap), (∀ y, C y = none → K (.slice (some ⟨y, 0, none⟩) 1 1) (C.set y ⟨stc 7 0 0 e 0 0 A c none 0 none 0, true, 75, 8⟩)) → D (.agg #[.int .i64 e.op, .int .i64 e.n, .slice A e.args.length c]) C) →
      ACalls Tryz.prog w0 84 [.pointer (some ⟨b, 0, none⟩), .int .i64 ((1 + j : Nat) : Int)] C3 D := by
    intro j C3 D hj r3 d3 hD
    have hTj : drT (1 + j) ≤ 45 := by
      match j, hj with
      | 0, _ | 1, _ | 2, _ => decide
    refine l91Expr_ok _ (1 + j) _ _ _ (by omega) r3 (by omega) (by omega) (fun e A c C4 p4 r4 d4 he hE hp0 hp1 => hD e A c C4 fun y hy => ?_)
    have he5 : exprOk 5 e = true := ok_up5 (show max (1 + j) 1 ≤ 5 by omega) he
    exact lit_one h (.mk 7 0 0 e [] []) r4 (d3.trans d4) (stv_simple _ _ _ _ (hE.le (d3.off_r d4))) (ok_simple (by simp [St.kind]) (by simp [St.kind]) (by simp [stSimple, St.kind, St.var, St.box, St.e, St.body, St.els, he5])) (by simp [St.cnt, cntL]; omega) (by omega) (by omega) hy
  have hset : ∀ D, Out1 S b C1 (p + 1) d (cB d) (pB d - 1) D → ACalls Tryz.prog w0 80 [.pointer (some ⟨b, 0, none⟩)] C1 D := fun D hD =>
    l92Set_ok _ _ r1 (by omega) (by omega) d fun s A0 c0 A1 c1 A2 c2 C2 p2 r2 d2 hs ho hc hp0 hp1 => hD s A0 c0 A1 c1 A2 c2 C2 p2 r2 d2 hs ho (by omega) hp0 (by omega)
  have htalk : ∀ D, Out1 S b C1 (p + 1) d (cB d) (pB d - 1) D → ACalls Tryz.prog w0 83 [.pointer (some ⟨b, 0, none⟩), .int .i64 B] C1 D := fun D hD =>
    l92Talk_ok _ _ r1 B hB (by omega) (by omega) d fun s A0 c0 A1 c1 A2 c2 C2 p2 r2 d2 hs ho hc hp0 hp1 => hD s A0 c0 A1 c1 A2 c2 C2 p2 r2 d2 hs ho (by omega) hp0 (by omega)
  have fyield : ∀ y, C1 y = none → K (.slice (some ⟨y, 0, none⟩) 1 1) (C1.set y ⟨stc 6 0 0 plain0 0 0 none 0 none 0 none 0, true, 75, 8⟩) := fun y hy =>
    lit_one h (.mk 6 0 0 plain0 [] []) r1 d1 (stv_simple _ _ _ _ (exV_leaf _ _ _ _ _)) (ok_simple (by simp [St.kind]) (by simp [St.kind]) (by simp [stSimple, St.kind, St.var, St.box, St.e, St.body, St.els, plainE, plain0, Ex.op, Ex.n, Ex.args])) (by simp [St.cnt, cntL]; omega) (by omega) (by omega) hy
  cases d with
  | zero =>
    have g0 : decide (((0 : Nat) : Int) > 0) = false := by decide
    repeat' (first | simp -implicitDefEqProofs only [zG1,zG2,zG3,zG4,zG5,zG6,zG7,eq_self,resV,rval,X.val,binv,fillL,setR,↓reduceIte,Nat.reduceEqDiff,Nat.reduceAdd,Nat.reduceMul,Nat.reduceLeDiff,Nat.reduceLT,Nat.reduceSub,reduceCtorEq,zGq, g0] | ((with_reducible refine rows_intro (fun _ hb => ?_)); try simp only [set_none, ne_eq] at hb) | ((with_reducible refine new_intro (fun _ hb => ?_)); try simp only [set_none, ne_eq] at hb) | (with_reducible refine draw_same ?_) | ((with_reducible refine gd_split ?_ (fun _ => ?_) (fun _ => ?_)); exact rfl) | ((with_reducible refine td_split ?_ (fun _ => ?_) (fun _ => ?_)); exact rfl) | (with_reducible refine c_split (fun _ => ?_) (fun _ => ?_)) | (with_reducible refine hset _ (one _ fun s A0 c0 A1 c1 A2 c2 C2 hk => ?_)) | (with_reducible refine htalk _ (one _ fun s A0 c0 A1 c1 A2 c2 C2 hk => ?_)) | (with_reducible refine print _ (fun j C3 hj r3 d3 => ?_)))
    all_goals first
      | exact ret_same (hk _ hb)
      | exact ret_same (fyield _ hb)
      | skip
    all_goals
      have w1 := one_add (j := j) (by omega)
      repeat' (first | simp -implicitDefEqProofs only [zG1,zG2,zG3,zG4,zG5,zG6,zG7,eq_self,resV,rval,X.val,binv,fillL,setR,↓reduceIte,Nat.reduceEqDiff,Nat.reduceAdd,Nat.reduceMul,Nat.reduceLeDiff,Nat.reduceLT,Nat.reduceSub,reduceCtorEq,zGq, w1] | ((with_reducible refine rows_intro (fun _ hb => ?_)); try simp only [set_none, ne_eq] at hb) | ((with_reducible refine new_intro (fun _ hb => ?_)); try simp only [set_none, ne_eq] at hb) | (with_reducible refine draw_same ?_) | ((with_reducible refine gd_split ?_ (fun _ => ?_) (fun _ => ?_)); exact rfl) | ((with_reducible refine td_split ?_ (fun _ => ?_) (fun _ => ?_)); exact rfl) | (with_reducible refine c_split (fun _ => ?_) (fun _ => ?_)) | (with_reducible refine pexpr j _ _ hj r3 d3 (fun e A c C hk => ?_)))
      exact ret_same (hk _ hb)
  | succ d =>
    have g0 : decide (((d + 1 : Nat) : Int) > 0) = true := by simp <;> omega
    have hP : pB (d + 1) = 4 * pB d + 64 := rfl
    have hCB : cB (d + 1) = 4 * cB d + 3 := rfl
    have ihd := ih d rfl
    have hif : ∀ D, Out1 S b C1 (p + 1) (d + 1) (cB (d + 1)) (pB (d + 1) - 1) D → ACalls Tryz.prog w0 81 [.pointer (some ⟨b, 0, none⟩), .int .i64 B, .int .i64 ((d + 1 : Nat) : Int), .bool loops] C1 D := fun D hD =>
      l92If_ok w0 d (by omega) ihd _ r1 B hB loops (by omega) (by omega) fun s A0 c0 A1 c1 A2 c2 C2 p2 r2 d2 hs ho hc hp0 hp1 => hD s A0 c0 A1 c1 A2 c2 C2 p2 r2 d2 hs ho (by omega) hp0 (by omega)
    have hloop : ∀ D : Value → AHeap → Prop, (∀ (ss : List St) (A : Option Addr) (c : Nat) (C : AHeap), K (.slice A ss.length c) C → D (.slice A ss.length c) C) → ACalls Tryz.prog w0 82 [.pointer (some ⟨b, 0, none⟩), .int .i64 B, .int .i64 ((d + 1 : Nat) : Int)] C1 D := fun D hD =>
      l92Loop_ok w0 d (by omega) ihd _ r1 B hB (by omega) (by omega) fun ss A c C2 p2 r2 d2 hs ho hl hc hp0 hp1 => hD ss A c C2 (h ss A c C2 p2 r2 (d1.trans d2) (hs.le (d1.off_r d2)) ho hl (by omega) (by omega) (by omega))
    repeat' (first | simp -implicitDefEqProofs only [zG1,zG2,zG3,zG4,zG5,zG6,zG7,eq_self,resV,rval,X.val,binv,fillL,setR,↓reduceIte,Nat.reduceEqDiff,Nat.reduceAdd,Nat.reduceMul,Nat.reduceLeDiff,Nat.reduceLT,Nat.reduceSub,reduceCtorEq,zGq, g0] | ((with_reducible refine rows_intro (fun _ hb => ?_)); try simp only [set_none, ne_eq] at hb) | ((with_reducible refine new_intro (fun _ hb => ?_)); try simp only [set_none, ne_eq] at hb) | (with_reducible refine draw_same ?_) | ((with_reducible refine gd_split ?_ (fun _ => ?_) (fun _ => ?_)); exact rfl) | ((with_reducible refine td_split ?_ (fun _ => ?_) (fun _ => ?_)); exact rfl) | (with_reducible refine c_split (fun _ => ?_) (fun _ => ?_)) | (with_reducible refine hset _ (one _ fun s A0 c0 A1 c1 A2 c2 C2 hk => ?_)) | (with_reducible refine htalk _ (one _ fun s A0 c0 A1 c1 A2 c2 C2 hk => ?_)) | (with_reducible refine hif _ (one _ fun s A0 c0 A1 c1 A2 c2 C2 hk => ?_)) | (with_reducible refine hloop _ (fun ss A c C2 hK => ?_)) | (with_reducible refine print _ (fun j C3 hj r3 d3 => ?_)))
    all_goals first
      | exact ret_same (hk _ hb)
      | exact ret_same hK
      | exact ret_same (fyield _ hb)
      | skip
    all_goals
      have w1 := one_add (j := j) (by omega)
      repeat' (first | simp -implicitDefEqProofs only [zG1,zG2,zG3,zG4,zG5,zG6,zG7,eq_self,resV,rval,X.val,binv,fillL,setR,↓reduceIte,Nat.reduceEqDiff,Nat.reduceAdd,Nat.reduceMul,Nat.reduceLeDiff,Nat.reduceLT,Nat.reduceSub,reduceCtorEq,zGq, w1] | ((with_reducible refine rows_intro (fun _ hb => ?_)); try simp only [set_none, ne_eq] at hb) | ((with_reducible refine new_intro (fun _ hb => ?_)); try simp only [set_none, ne_eq] at hb) | (with_reducible refine draw_same ?_) | ((with_reducible refine gd_split ?_ (fun _ => ?_) (fun _ => ?_)); exact rfl) | ((with_reducible refine td_split ?_ (fun _ => ?_) (fun _ => ?_)); exact rfl) | (with_reducible refine c_split (fun _ => ?_) (fun _ => ?_)) | (with_reducible refine pexpr j _ _ hj r3 d3 (fun e A c C hk => ?_)))
      exact ret_same (hk _ hb)
theorem blk_step {H C C2 C' : AHeap} {b : Nat} {bs bs' : List Nat} {t : TypeId} {v : Value} {n : Nat} {xs ys : List Value} {ss ts : List St} (d0 : Dr H C b) (d2 : Dr C C2 b) (n0 : New H bs) (w : Rw C t 8 v n xs bs) (s0 : StL ((C.off H).no fun x => x ∈ bs) ss xs)
    (s2 : StL (C2.off C) ts ys) (hc : Chg C2 C' bs) (hn : ∀ x, x ∈ bs' → x ∈ bs ∨ C2 x = none) : StL ((C'.off H).no fun x => x ∈ bs') (ss ++ ts) (xs ++ ys) := by
  refine StL.app (s0.le fun x k hx => ?_) (s2.le fun x k hx => ?_)
  · by_cases hm : x ∈ bs
    · rw [no_in (B := fun x => x ∈ bs) hm] at hx; cases hx
    · rw [no_out (B := fun x => x ∈ bs) hm] at hx
      obtain ⟨g1, g2⟩ := off_some hx
      have xb : ¬ x = b := by rintro rfl; exact d0.b0 g1
      have k2 := d2.sov g2 xb
      obtain ⟨k3, h3, r3⟩ := k2.chg hc hm
      have hm' : ¬ x ∈ bs' := fun h => (hn x h).elim hm fun e => k2.ne e
      exact ⟨k3, by rw [no_out (B := fun x => x ∈ bs') hm', off_at g1]; exact h3, r3⟩
  · obtain ⟨g1, g2⟩ := off_some hx
    have hm : ¬ x ∈ bs := fun hm => by
      rcases w with ⟨_, _, _, rfl⟩ | ⟨b', cap, _, rfl, _, _, _, hk⟩
      · cases hm
      · simp only [List.mem_cons, List.not_mem_nil, or_false] at hm
        subst hm; exact hk.ne g1
    obtain ⟨k3, h3, r3⟩ := hc x k hm g2
    have hm' : ¬ x ∈ bs' := fun h => (hn x h).elim hm fun e => by rw [e] at g2; cases g2
    exact ⟨k3, by rw [no_out (B := fun x => x ∈ bs') hm', off_at (d0.nov g1)]; exact h3, r3⟩
theorem blkP_of (d : Nat) (hd3 : d ≤ 3) (ih : StmP w0 d) : BlkP w0 d := by
  intro S b H K p B n cm pm loops hr hB h0 hn8 hcm hpm h1 h
  have hcl := cB_le hd3
  refine acalls_of_sx mix Tryz.func63 of63 (by simp [ir63]) ?_; rw [ir63]; (try delta qT qI qC qO qM qG)
  repeat' (first | simp -implicitDefEqProofs only [zG1,zG2,zG3,zG4,zG5,zG6,zG7,eq_self,resV,rval,X.val,binv,fillL,setR,↓reduceIte,Nat.reduceEqDiff,Nat.reduceAdd,Nat.reduceMul,Nat.reduceLeDiff,Nat.reduceLT,Nat.reduceSub,reduceCtorEq,zGq] | ((with_reducible refine rows_intro (fun _ hb => ?_)); try simp only [set_none, ne_eq] at hb) | ((with_reducible refine new_intro (fun _ hb => ?_)); try simp only [set_none, ne_eq] at hb) | (with_reducible refine draw_same ?_) | ((with_reducible refine gd_split ?_ (fun _ => ?_) (fun _ => ?_)); exact rfl) | ((with_reducible refine td_split ?_ (fun _ => ?_) (fun _ => ?_)); exact rfl) | (with_reducible refine c_split (fun _ => ?_) (fun _ => ?_)))
  have hb1 := hb
  have l1 := (AHeap.le.refl H).fresh hb1 ⟨[], true, 75, 0⟩
  refine for_rule n (fun k fr C => ∃ ss xs v bs p', RdK S C b p' ∧ Dr H C b ∧ New H bs ∧ Rw C 75 8 v ss.length xs bs ∧ StL ((C.off H).no fun x => x ∈ bs) ss xs ∧ ss.all (stOk d) = true ∧ ss.length ≤ 2 * k ∧ cntL ss ≤ k * cB d ∧ p ≤ p' ∧ p' ≤ p + (k * pB d : Nat) ∧
      fr 0 = .pointer (some ⟨b, 0, none⟩) ∧ fr 1 = .int .i64 B ∧ fr 2 = .int .i64 d ∧ fr 3 = .int .i64 n ∧ fr 4 = .bool loops ∧ fr 11 = v ∧ fr 12 = .int .i64 k)
    ⟨[], [], _, [_], p, hr.fresh hb1 _, hr.dr l1, New.one hb1, Rw.mk (cap := 0) (by rw [Nat.zero_mul]; exact Kn.same _ _ _) (by simp) (by simp) (by decide), by simp [StL], rfl, by simp, by simp [cntL], by omega, by omega, (by first | rfl | (simp only [put_at, ↓reduceIte, Nat.reduceEqDiff]; first | done | rfl | assumption) | simp [put_at, *]), (by first | rfl | (simp only [put_at, ↓reduceIte, Nat.reduceEqDiff]; first | done | rfl | assumption) | simp [put_at, *]), (by first | rfl | (simp only [put_at, ↓reduceIte, Nat.reduceEqDiff]; first | done | rfl | assumption) | simp [put_at, *]), (by first | rfl | (simp only [put_at, ↓reduceIte, Nat.reduceEqDiff]; first | done | rfl | assumption) | simp [put_at, *]), (by first | rfl | (simp only [put_at, ↓reduceIte, Nat.reduceEqDiff]; first | done | rfl | assumption) | simp [put_at, *]), (by first | rfl | (simp only [put_at, ↓reduceIte, Nat.reduceEqDiff]; first | done | rfl | assumption) | simp [put_at, *]), (by first | rfl | (simp only [put_at, ↓reduceIte, Nat.reduceEqDiff]; first | done | rfl | assumption) | simp [put_at, *])⟩ ?_ ?_
  · rintro k fr C hk ⟨ss, xs, v, bs, p', hrc, hd, hnb, hw, hs, hok, hl, hct, hp0, hp1, f0, f1, f2, f3, f4, f11, f12⟩ N hN
    obtain ⟨A1, c1, rfl, -⟩ := hw.fl
    have e1 : (k + 1) * pB d = k * pB d + pB d := Nat.succ_mul _ _
    have e2 : (k + 1) * pB d ≤ n * pB d := Nat.mul_le_mul_right _ hk
    have e3 : (k + 1) * cB d = k * cB d + cB d := Nat.succ_mul _ _
    have g0 := lt_dec hk
    have g2 := up1 hk (by omega)
    have hbs : ¬ b ∈ bs := fun hm => hd.b0 (hnb b hm)
    repeat' (first | simp -implicitDefEqProofs only [zG1,zG2,zG3,zG4,zG5,zG6,zG7,eq_self,resV,rval,X.val,binv,fillL,setR,↓reduceIte,Nat.reduceEqDiff,Nat.reduceAdd,Nat.reduceMul,Nat.reduceLeDiff,Nat.reduceLT,Nat.reduceSub,reduceCtorEq,zGq, f0, f1, f2, f3, f4, f11, f12, g0, g2] | ((with_reducible refine rows_intro (fun _ hb => ?_)); try simp only [set_none, ne_eq] at hb) | ((with_reducible refine new_intro (fun _ hb => ?_)); try simp only [set_none, ne_eq] at hb) | (with_reducible refine draw_same ?_) | ((with_reducible refine gd_split ?_ (fun _ => ?_) (fun _ => ?_)); exact rfl) | ((with_reducible refine td_split ?_ (fun _ => ?_) (fun _ => ?_)); exact rfl) | (with_reducible refine c_split (fun _ => ?_) (fun _ => ?_)))
    refine ih S b C _ p' B loops hrc hB (by omega) (by omega) (fun ts A c C2 p2 r2 d2 hts hto htl htc hp2 hp3 => ?_)
    obtain ⟨ys, hys, hyf⟩ := hts.fl0
    have hw2 : Rw C2 75 8 (.slice A1 ss.length c1) ss.length xs bs := hw.chg (d2.toChg (bs := [b]) (by simp)) fun y hy hm => by
      simp only [List.mem_cons, List.not_mem_nil, or_false] at hm
      exact hbs (hm ▸ hy)
    repeat' (first | simp -implicitDefEqProofs only [zG1,zG2,zG3,zG4,zG5,zG6,zG7,eq_self,resV,rval,X.val,binv,fillL,setR,↓reduceIte,Nat.reduceEqDiff,Nat.reduceAdd,Nat.reduceMul,Nat.reduceLeDiff,Nat.reduceLT,Nat.reduceSub,reduceCtorEq,zGq] | ((with_reducible refine rows_intro (fun _ hb => ?_)); try simp only [set_none, ne_eq] at hb) | ((with_reducible refine new_intro (fun _ hb => ?_)); try simp only [set_none, ne_eq] at hb) | (with_reducible refine draw_same ?_) | ((with_reducible refine gd_split ?_ (fun _ => ?_) (fun _ => ?_)); exact rfl) | ((with_reducible refine td_split ?_ (fun _ => ?_) (fun _ => ?_)); exact rfl) | (with_reducible refine c_split (fun _ => ?_) (fun _ => ?_)))
    refine app_rw hw2 (hyf.le (off_le _ _)) hys.len hys.one' (by simp only [maxLen]; omega) (by omega) (fun v3 C3 bs3 hc3 hn3 w3 => ?_)
    have d3 := (hd.trans d2).chg hc3 hnb
    repeat' (first | simp -implicitDefEqProofs only [zG1,zG2,zG3,zG4,zG5,zG6,zG7,eq_self,resV,rval,X.val,binv,fillL,setR,↓reduceIte,Nat.reduceEqDiff,Nat.reduceAdd,Nat.reduceMul,Nat.reduceLeDiff,Nat.reduceLT,Nat.reduceSub,reduceCtorEq,zGq, f0, f1, f2, f3, f4, f11, f12, g2] | ((with_reducible refine rows_intro (fun _ hb => ?_)); try simp only [set_none, ne_eq] at hb) | ((with_reducible refine new_intro (fun _ hb => ?_)); try simp only [set_none, ne_eq] at hb) | (with_reducible refine draw_same ?_) | ((with_reducible refine gd_split ?_ (fun _ => ?_) (fun _ => ?_)); exact rfl) | ((with_reducible refine td_split ?_ (fun _ => ?_) (fun _ => ?_)); exact rfl) | (with_reducible refine c_split (fun _ => ?_) (fun _ => ?_)))
    refine hN _ _ _ (.refl _) ⟨ss ++ ts, xs ++ ys, v3, bs3, p2, r2.chg hc3 hbs hr.fl d3.le, d3, fun y hy => ?_, by rw [List.length_append]; exact w3, blk_step hd d2 hnb hw hs hys hc3 hn3, by simp [List.all_append, hok, hto], by rw [List.length_append]; omega, by rw [cntL_app]; omega, by omega, by omega, (by first | rfl | (simp only [put_at, ↓reduceIte, Nat.reduceEqDiff]; first | done | rfl | assumption) | simp [put_at, *]), (by first | rfl | (simp only [put_at, ↓reduceIte, Nat.reduceEqDiff]; first | done | rfl | assumption) | simp [put_at, *]), (by first | rfl | (simp only [put_at, ↓reduceIte, Nat.reduceEqDiff]; first | done | rfl | assumption) | simp [put_at, *]), (by first | rfl | (simp only [put_at, ↓reduceIte, Nat.reduceEqDiff]; first | done | rfl | assumption) | simp [put_at, *]), (by first | rfl | (simp only [put_at, ↓reduceIte, Nat.reduceEqDiff]; first | done | rfl | assumption) | simp [put_at, *]), (by first | rfl | (simp only [put_at, ↓reduceIte, Nat.reduceEqDiff]; first | done | rfl | assumption) | simp [put_at, *]), (by first | rfl | (simp only [put_at, ↓reduceIte, Nat.reduceEqDiff]; first | done | rfl | assumption) | simp [put_at, *])⟩
    rcases hn3 y hy with h | h
    · exact hnb y h
    · exact (hd.trans d2).nov h
  · rintro fr C ⟨ss, xs, v, bs, p', hrc, hd, hnb, hw, hs, hok, hl, hct, hp0, hp1, f0, f1, f2, f3, f4, f11, f12⟩ N
    have g0 : decide ((n : Int) < (n : Int)) = false := by simp
    repeat' (first | simp -implicitDefEqProofs only [zG1,zG2,zG3,zG4,zG5,zG6,zG7,eq_self,resV,rval,X.val,binv,fillL,setR,↓reduceIte,Nat.reduceEqDiff,Nat.reduceAdd,Nat.reduceMul,Nat.reduceLeDiff,Nat.reduceLT,Nat.reduceSub,reduceCtorEq,zGq, f0, f1, f2, f3, f4, f11, f12, g0] | ((with_reducible refine rows_intro (fun _ hb => ?_)); try simp only [set_none, ne_eq] at hb) | ((with_reducible refine new_intro (fun _ hb => ?_)); try simp only [set_none, ne_eq] at hb) | (with_reducible refine draw_same ?_) | ((with_reducible refine gd_split ?_ (fun _ => ?_) (fun _ => ?_)); exact rfl) | ((with_reducible refine td_split ?_ (fun _ => ?_) (fun _ => ?_)); exact rfl) | (with_reducible refine c_split (fun _ => ?_) (fun _ => ?_)))
    exact ret_same (h ss xs v bs C p' hrc hd hnb hw hs hok hl (by omega) hp0 (by omega))
theorem blkP : ∀ d, d ≤ 3 → BlkP w0 d
  | 0, h => blkP_of w0 0 h (stmP_of w0 0 h fun d' e => by omega)
  | d + 1, h => blkP_of w0 (d + 1) h (stmP_of w0 (d + 1) h fun d' e => by
    obtain rfl : d' = d := (by omega)
    exact blkP d' (by omega))
theorem l92Block3_ok (S : Src) (b : Nat) (H : AHeap) (K : Value → AHeap → Prop) (p B : Int) (n : Nat) (hr : RdK S H b p) (hB : B ≤ 3) (h0 : 0 ≤ p) (hn : n ≤ 6) (h1 : p ≤ 1099511500000)
    (h : ∀ ss xs v bs C' p', RdK S C' b p' → Dr H C' b → New H bs → Rw C' 75 8 v ss.length xs bs → StL ((C'.off H).no fun x => x ∈ bs) ss xs → ss.all (stOk 3) = true → ss.length ≤ 12 → cntL ss ≤ 1200 → p ≤ p' → p' ≤ p + 36000 → K v C') :
    ACalls Tryz.prog w0 63 [.pointer (some ⟨b, 0, none⟩), .int .i64 B, .int .i64 3, .int .i64 n, .bool true] H K := by
  have e1 : n * cB 3 ≤ 1200 := Nat.le_trans (Nat.mul_le_mul_right _ hn) (by decide)
  have e2 : n * pB 3 ≤ 36000 := Nat.le_trans (Nat.mul_le_mul_right _ hn) (by decide)
  exact blkP w0 3 (by decide) S b H K p B n 1200 36000 true hr hB h0 (by omega) e1 e2 (by omega) fun ss xs v bs C' p' g1 g2 g3 g4 g5 g6 g7 g8 g9 g10 => h ss xs v bs C' p' g1 g2 g3 g4 g5 g6 (by omega) g8 g9 g10
/-- The statements of a task. -/
theorem l92Stmts_ok (S : Src) (b : Nat) (H : AHeap) (K : Value → AHeap → Prop) (p B : Int) (hr : RdK S H b p) (hB : B ≤ 3) (h0 : 0 ≤ p) (h1 : p ≤ 1099511400000)
    (h : ∀ ss xs v bs C' p', RdK S C' b p' → Dr H C' b → New H bs → Rw C' 75 8 v ss.length xs bs → StL ((C'.off H).no fun x => x ∈ bs) ss xs → stsOk ss = true → ss.length ≤ 12 → p ≤ p' → p' ≤ p + 36001 → K v C') :
    ACalls Tryz.prog w0 57 [.pointer (some ⟨b, 0, none⟩), .int .i64 B] H K := by
  refine acalls_of_sx mix Tryz.func57 of57 (by simp [ir57]) ?_; rw [ir57]; (try delta qT qI qC qO qM qG)
  repeat' (first | simp -implicitDefEqProofs only [zG1,zG2,zG3,zG4,zG5,zG6,zG7,eq_self,resV,rval,X.val,binv,fillL,setR,↓reduceIte,Nat.reduceEqDiff,Nat.reduceAdd,Nat.reduceMul,Nat.reduceLeDiff,Nat.reduceLT,Nat.reduceSub,reduceCtorEq,zGq] | ((with_reducible refine rows_intro (fun _ hb => ?_)); try simp only [set_none, ne_eq] at hb) | ((with_reducible refine new_intro (fun _ hb => ?_)); try simp only [set_none, ne_eq] at hb) | (with_reducible refine draw_same ?_) | ((with_reducible refine gd_split ?_ (fun _ => ?_) (fun _ => ?_)); exact rfl) | ((with_reducible refine td_split ?_ (fun _ => ?_) (fun _ => ?_)); exact rfl) | (with_reducible refine c_split (fun _ => ?_) (fun _ => ?_)))
  refine pickK_ok _ _ hr 6 (by omega) (by omega) (by decide) (fun u C1 r1 d1 hu0 hu1 => ?_)
  obtain ⟨j, rfl⟩ := nat3 hu0
  have w1 := one_add (j := j) (by omega)
  repeat' (first | simp -implicitDefEqProofs only [zG1,zG2,zG3,zG4,zG5,zG6,zG7,eq_self,resV,rval,X.val,binv,fillL,setR,↓reduceIte,Nat.reduceEqDiff,Nat.reduceAdd,Nat.reduceMul,Nat.reduceLeDiff,Nat.reduceLT,Nat.reduceSub,reduceCtorEq,zGq, w1] | ((with_reducible refine rows_intro (fun _ hb => ?_)); try simp only [set_none, ne_eq] at hb) | ((with_reducible refine new_intro (fun _ hb => ?_)); try simp only [set_none, ne_eq] at hb) | (with_reducible refine draw_same ?_) | ((with_reducible refine gd_split ?_ (fun _ => ?_) (fun _ => ?_)); exact rfl) | ((with_reducible refine td_split ?_ (fun _ => ?_) (fun _ => ?_)); exact rfl) | (with_reducible refine c_split (fun _ => ?_) (fun _ => ?_)))
  refine l92Block3_ok _ S b C1 _ (p + 1) B (1 + j) r1 hB (by omega) (by omega) (by omega) (fun ss xs v bs C2 p2 r2 d2 n2 w2 s2 hok hl hc hp0 hp1 => ?_)
  repeat' (first | simp -implicitDefEqProofs only [zG1,zG2,zG3,zG4,zG5,zG6,zG7,eq_self,resV,rval,X.val,binv,fillL,setR,↓reduceIte,Nat.reduceEqDiff,Nat.reduceAdd,Nat.reduceMul,Nat.reduceLeDiff,Nat.reduceLT,Nat.reduceSub,reduceCtorEq,zGq] | ((with_reducible refine rows_intro (fun _ hb => ?_)); try simp only [set_none, ne_eq] at hb) | ((with_reducible refine new_intro (fun _ hb => ?_)); try simp only [set_none, ne_eq] at hb) | (with_reducible refine draw_same ?_) | ((with_reducible refine gd_split ?_ (fun _ => ?_) (fun _ => ?_)); exact rfl) | ((with_reducible refine td_split ?_ (fun _ => ?_) (fun _ => ?_)); exact rfl) | (with_reducible refine c_split (fun _ => ?_) (fun _ => ?_)))
  have d02 := d1.trans d2
  refine while_rule (fun m fr C => ∃ ss' xs' v', m = ss'.length ∧ C = C2 ∧ Rw C 75 8 v' ss'.length xs' bs ∧ StL ((C.off C1).no fun x => x ∈ bs) ss' xs' ∧ ss'.all (stOk 3) = true ∧ ss'.length ≤ 12 ∧ cntL ss' ≤ 1200 ∧ fr 5 = v')
    ss.length ⟨ss, xs, v, rfl, rfl, w2, s2, hok, hl, hc, (by first | rfl | (simp only [put_at, ↓reduceIte, Nat.reduceEqDiff]; first | done | rfl | assumption) | simp [put_at, *])⟩ ?_
  rintro m fr _ ⟨ss', xs', v', rfl, rfl, w, s, hok', hl', hc', f5⟩ N hN
  obtain ⟨A1, c1, rfl, f⟩ := w.fl
  have hR : StR _ ss' A1 0 := (s.le ((no_le _ _).trans (off_le _ _))).str f
  by_cases hbig : 16 < cntL ss'
  · have g0 : decide ((cntL ss' : Int) > 16) = true := by simp; omega
    have hpos : 0 < ss'.length := by
      cases ss' with
      | nil => simp [cntL] at hbig
      | cons x xs => simp
    obtain ⟨b', cap, e, rfl, hcap1, hcap2, hxl, hk⟩ := w.open_ hpos
    simp only [Value.slice.injEq, true_and] at e
    obtain ⟨rfl, rfl⟩ := e
    obtain ⟨m, hm⟩ : ∃ m, ss'.length = m + 1 := ⟨ss'.length - 1, by omega⟩
    have w2' : IntKind.i64.wrap ((ss'.length : Int) - 1) = (m : Int) := by rw [wrap_i64 (by omega) (by omega)]; omega
    have g3 : bnds ss'.length c1 none (some (.int .i64 (m : Int))) none = some (0, m, c1) := by
      have : (m : Int) ≤ c1 := by omega
      simp [bnds, bndv, this]
    repeat' (first | simp -implicitDefEqProofs only [zG1,zG2,zG3,zG4,zG5,zG6,zG7,eq_self,resV,rval,X.val,binv,fillL,setR,↓reduceIte,Nat.reduceEqDiff,Nat.reduceAdd,Nat.reduceMul,Nat.reduceLeDiff,Nat.reduceLT,Nat.reduceSub,reduceCtorEq,zGq, f5, g0, w2', g3, Option.map_none, Nat.zero_mul, ite_self, Nat.sub_zero] | ((with_reducible refine rows_intro (fun _ hb => ?_)); try simp only [set_none, ne_eq] at hb) | ((with_reducible refine new_intro (fun _ hb => ?_)); try simp only [set_none, ne_eq] at hb) | (with_reducible refine draw_same ?_) | ((with_reducible refine gd_split ?_ (fun _ => ?_) (fun _ => ?_)); exact rfl) | ((with_reducible refine td_split ?_ (fun _ => ?_) (fun _ => ?_)); exact rfl) | (with_reducible refine c_split (fun _ => ?_) (fun _ => ?_)) | (with_reducible refine l11Count_ok _ ss' _ _ _ _ (by omega) hR ?_))
    obtain ⟨k1, k2⟩ := Rw.cut_ (m := m) hk hxl (by omega)
    have ht : (ss'.take m).length = m := by rw [List.length_take]; omega
    have hcl := cntL_le (ss := ss') m
    refine hN m _ _ _ (by omega) (.refl _) ⟨ss'.take m, xs'.take (m * 8), _, ht.symm, rfl, ?_, s.take m, ?_, by omega, by omega, (by first | rfl | (simp only [put_at, ↓reduceIte, Nat.reduceEqDiff]; first | done | rfl | assumption) | simp [put_at, *])⟩
    · rw [ht]; exact Rw.mk k1 k2 (by omega) hcap2
    · rw [List.all_eq_true] at hok' ⊢
      exact fun x hx => hok' x (List.mem_of_mem_take hx)
  · have g0 : decide ((cntL ss' : Int) > 16) = false := by simp; omega
    repeat' (first | simp -implicitDefEqProofs only [zG1,zG2,zG3,zG4,zG5,zG6,zG7,eq_self,resV,rval,X.val,binv,fillL,setR,↓reduceIte,Nat.reduceEqDiff,Nat.reduceAdd,Nat.reduceMul,Nat.reduceLeDiff,Nat.reduceLT,Nat.reduceSub,reduceCtorEq,zGq, f5, g0] | ((with_reducible refine rows_intro (fun _ hb => ?_)); try simp only [set_none, ne_eq] at hb) | ((with_reducible refine new_intro (fun _ hb => ?_)); try simp only [set_none, ne_eq] at hb) | (with_reducible refine draw_same ?_) | ((with_reducible refine gd_split ?_ (fun _ => ?_) (fun _ => ?_)); exact rfl) | ((with_reducible refine td_split ?_ (fun _ => ?_) (fun _ => ?_)); exact rfl) | (with_reducible refine c_split (fun _ => ?_) (fun _ => ?_)) | (with_reducible refine l11Count_ok _ ss' _ _ _ _ (by omega) hR ?_))
    refine ret_same (h ss' xs' _ bs _ p2 r2 d02 (n2.le' d1) w ?_ ?_ hl' (by omega) (by omega))
    · exact s.le (no_mono (d1.off_r d2))
    · simp only [stsOk, hok', Bool.true_and, decide_eq_true_eq]; omega
end Go.Proofs.YtodhkodhndbpmaaGreat
namespace Go.Proofs.YtodhkodhndbpmaaGreat
set_option linter.all false
open Go Go.RowKit
set_option maxRecDepth 100000
variable (w0 : World)
theorem fl_eight {A B : AHeap} {t : TypeId} {b : Nat} {x0 x1 x2 x3 x4 x5 x6 x7 : Value} {o : Bool} {c : Nat} (hl : AHeap.le (A.set b ⟨[x0, x1, x2, x3, x4, x5, x6, x7], o, t, c⟩) B) :
    B.cell (some ⟨b, 0, none⟩) = some x0 ∧ B.cell (some ⟨b, 1, none⟩) = some x1 ∧ B.cell (some ⟨b, 2, none⟩) = some x2 ∧ B.cell (some ⟨b, 3, none⟩) = some x3 ∧ B.cell (some ⟨b, 4, none⟩) = some x4 ∧ B.cell (some ⟨b, 5, none⟩) = some x5 ∧ B.cell (some ⟨b, 6, none⟩) = some x6 ∧ B.cell (some ⟨b, 7, none⟩) = some x7 :=
  ⟨hl.cell (by rw [cell_same]; rfl), hl.cell (by rw [cell_same]; rfl), hl.cell (by rw [cell_same]; rfl), hl.cell (by rw [cell_same]; rfl), hl.cell (by rw [cell_same]; rfl), hl.cell (by rw [cell_same]; rfl), hl.cell (by rw [cell_same]; rfl), hl.cell (by rw [cell_same]; rfl)⟩
theorem q_oc (q : Qd) : ∀ v ∈ q.cells, v.oneCell' = true := by simp [ocI]
theorem qcells_cons (q : Qd) (l : List Qd) : qcells (q :: l) = q.cells ++ qcells l := by simp [qcells]
theorem qcells_one' (q : Qd) : qcells [q] = q.cells := by simp [qcells]
theorem emp0 {α : Type} {l : List α} (h : l.isEmpty = true) : (((l.length : Nat) : Int) == 0) = true := by
  cases l with
  | nil => rfl
  | cons x xs => cases h
theorem emp1 {α : Type} {l : List α} (h : l.isEmpty = false) : (((l.length : Nat) : Int) == 0) = false := by
  cases l with
  | nil => cases h
  | cons x xs => simp; omega
/-- l22Expr, as a row over the heap. -/
theorem l22ExprR_ok (e : Ex) (a : Option Addr) (c : Nat) (H : AHeap) (K : Value → AHeap → Prop) (he : exprOk 5 e = true) (hv : ExV H e [.int .i64 e.op, .int .i64 e.n, .slice a e.args.length c])
    (h : ∀ v C, Row H C 36 5 v (compE e).length (qcells (compE e)) → K v C) :
    ACalls Tryz.prog w0 77 [.agg #[.int .i64 e.op, .int .i64 e.n, .slice a e.args.length c], .int .i64 4] H K :=
  l22Expr_ok w0 5 e a c 4 H K (by decide) he hv (by decide) (by decide) (rw_of fun v C bs l n w => h v C ⟨bs, l, n, w⟩)
abbrev LiP (d : Nat) : Prop := ∀ (ss : List St) (A : Option Addr) (c i : Nat) (H : AHeap) (K : Value → AHeap → Prop), ss.all (stOk d) = true → cntL ss ≤ 1048576 → i ≤ 1099511627776 - 33 * cntL ss → StR H ss A 0 →
  (∀ v C, Row H C 36 5 v (szL ss) (qcells (compL ss i)) → K v C) → ACalls Tryz.prog w0 62 [.slice A ss.length c, .int .i64 i] H K
abbrev SiP (d : Nat) : Prop := ∀ (s : St) (A0 : Option Addr) (c0 : Nat) (A1 : Option Addr) (c1 : Nat) (A2 : Option Addr) (c2 i : Nat) (H : AHeap) (K : Value → AHeap → Prop), stOk d s = true → s.cnt ≤ 1048576 → i ≤ 1099511627776 - 33 * s.cnt →
  StV H s (stc s.kind s.var s.box s.e s.body.length s.els.length A0 c0 A1 c1 A2 c2) → (∀ v C, Row H C 36 5 v (szS s) (qcells (compS s i)) → K v C) →
  ACalls Tryz.prog w0 70 [stv s.kind s.var s.box s.e s.body.length s.els.length A0 c0 A1 c1 A2 c2, .int .i64 i] H K
theorem l22If_ok (d : Nat) (ih : LiP w0 d) (k v b : Int) (e : Ex) (body els : List St) (A0 : Option Addr) (c0 : Nat) (A1 : Option Addr) (c1 : Nat) (A2 : Option Addr) (c2 i : Nat) (H : AHeap) (K : Value → AHeap → Prop)
    (he : exprOk 5 e = true) (hbd : body.all (stOk d) = true) (hel' : els.all (stOk d) = true) (hc : cntL body + cntL els < 1048576) (hi : i ≤ 1099511627776 - 33 * (1 + cntL body + cntL els))
    (hE : ExV H e [.int .i64 e.op, .int .i64 e.n, .slice A0 e.args.length c0]) (hB : StR H body A1 0) (hL : StR H els A2 0)
    (h : ∀ v' C, Row H C 36 5 v' (szS (.mk 2 v b e body els)) (qcells (compS (.mk 2 v b e body els) i)) → K v' C) :
    ACalls Tryz.prog w0 78 [stv k v b e body.length els.length A0 c0 A1 c1 A2 c2, .int .i64 i] H K := by
  have n0 := compE_le e
  have n1 := szL_le body
  have n2 := szL_le els
  refine acalls_of_sx mix Tryz.func78 of78 (by simp [ir78]) ?_; rw [ir78]; (try delta qT qI qC qO qM qG)
  repeat' (first | simp -implicitDefEqProofs only [zG1,zG2,zG3,zG4,zG5,zG6,zG7,eq_self,resV,rval,X.val,binv,fillL,setR,↓reduceIte,Nat.reduceEqDiff,Nat.reduceAdd,Nat.reduceMul,Nat.reduceLeDiff,Nat.reduceLT,Nat.reduceSub,reduceCtorEq,zGq] | ((with_reducible refine rows_intro (fun _ hb => ?_)); try simp only [set_none, ne_eq] at hb) | ((with_reducible refine new_intro (fun _ hb => ?_)); try simp only [set_none, ne_eq] at hb) | (with_reducible refine draw_same ?_) | ((with_reducible refine gd_split ?_ (fun _ => ?_) (fun _ => ?_)); exact rfl) | ((with_reducible refine td_split ?_ (fun _ => ?_) (fun _ => ?_)); exact rfl) | (with_reducible refine c_split (fun _ => ?_) (fun _ => ?_)))
  rename_i x
  have hx := hb
  have lx := (AHeap.le.refl H).fresh hx ⟨[.int .i64 k, .int .i64 v, .int .i64 b, .int .i64 e.op, .int .i64 e.n, .slice A0 e.args.length c0, .slice A1 body.length c1, .slice A2 els.length c2], true, 75, 8⟩
  refine l22ExprR_ok _ e A0 c0 _ _ he (hE.le lx) (fun v1 C1 r1 => ?_)
  have g1 := fl_eight r1.hle
  obtain ⟨B1, e1, rfl, -⟩ := r1.fl
  have w1 := nat_add (a := i) (b := (compE e).length) (by omega)
  have w2 := nat_up (a := i + (compE e).length) (by omega)
  repeat' (first | simp -implicitDefEqProofs only [zG1,zG2,zG3,zG4,zG5,zG6,zG7,eq_self,resV,rval,X.val,binv,fillL,setR,↓reduceIte,Nat.reduceEqDiff,Nat.reduceAdd,Nat.reduceMul,Nat.reduceLeDiff,Nat.reduceLT,Nat.reduceSub,reduceCtorEq,zGq, g1, w1, w2] | ((with_reducible refine rows_intro (fun _ hb => ?_)); try simp only [set_none, ne_eq] at hb) | ((with_reducible refine new_intro (fun _ hb => ?_)); try simp only [set_none, ne_eq] at hb) | (with_reducible refine draw_same ?_) | ((with_reducible refine gd_split ?_ (fun _ => ?_) (fun _ => ?_)); exact rfl) | ((with_reducible refine td_split ?_ (fun _ => ?_) (fun _ => ?_)); exact rfl) | (with_reducible refine c_split (fun _ => ?_) (fun _ => ?_)) | (with_reducible refine ih body A1 c1 _ _ _ hbd (by omega) (by omega) (hB.le (lx.trans r1.hle)) (fun v2 C2 r2 => ?_)))
  have g2 := fl_eight (r1.hle.trans r2.hle)
  obtain ⟨B2, e2, rfl, -⟩ := r2.fl
  have w3 := nat_add (a := i + (compE e).length + 1) (b := szL body) (by omega)
  cases hel : els.isEmpty with
  | true =>
    have g3 := emp0 hel
    repeat' (first | simp -implicitDefEqProofs only [zG1,zG2,zG3,zG4,zG5,zG6,zG7,eq_self,resV,rval,X.val,binv,fillL,setR,↓reduceIte,Nat.reduceEqDiff,Nat.reduceAdd,Nat.reduceMul,Nat.reduceLeDiff,Nat.reduceLT,Nat.reduceSub,reduceCtorEq,zGq, g2, g3, w1, w2, w3] | ((with_reducible refine rows_intro (fun _ hb => ?_)); try simp only [set_none, ne_eq] at hb) | ((with_reducible refine new_intro (fun _ hb => ?_)); try simp only [set_none, ne_eq] at hb) | (with_reducible refine draw_same ?_) | ((with_reducible refine gd_split ?_ (fun _ => ?_) (fun _ => ?_)); exact rfl) | ((with_reducible refine td_split ?_ (fun _ => ?_) (fun _ => ?_)); exact rfl) | (with_reducible refine c_split (fun _ => ?_) (fun _ => ?_)))
    obtain ⟨D, lD, lD2, rD, kp⟩ := r1.cut r2.hle
    have r2' := kp _ _ _ _ _ r2
    refine rD.app1 (m := 1) ‹_› rfl (by simp [ocI]) (by simp only [maxLen]; omega) (by omega) (fun v3 C3 r3 => ?_)
    repeat' (first | simp -implicitDefEqProofs only [zG1,zG2,zG3,zG4,zG5,zG6,zG7,eq_self,resV,rval,X.val,binv,fillL,setR,↓reduceIte,Nat.reduceEqDiff,Nat.reduceAdd,Nat.reduceMul,Nat.reduceLeDiff,Nat.reduceLT,Nat.reduceSub,reduceCtorEq,zGq, g2, g3, w1, w2, w3] | ((with_reducible refine rows_intro (fun _ hb => ?_)); try simp only [set_none, ne_eq] at hb) | ((with_reducible refine new_intro (fun _ hb => ?_)); try simp only [set_none, ne_eq] at hb) | (with_reducible refine draw_same ?_) | ((with_reducible refine gd_split ?_ (fun _ => ?_) (fun _ => ?_)); exact rfl) | ((with_reducible refine td_split ?_ (fun _ => ?_) (fun _ => ?_)); exact rfl) | (with_reducible refine c_split (fun _ => ?_) (fun _ => ?_)))
    have r2'' := r2'.le r3.hle
    have f2 := r2''.fl'.1
    refine r3.app f2 (by rw [qcells_len, compL_len]; rfl) (qcells_oc _) (by simp only [maxLen]; omega) (by omega) (fun v4 C4 r4 => ?_)
    repeat' (first | simp -implicitDefEqProofs only [zG1,zG2,zG3,zG4,zG5,zG6,zG7,eq_self,resV,rval,X.val,binv,fillL,setR,↓reduceIte,Nat.reduceEqDiff,Nat.reduceAdd,Nat.reduceMul,Nat.reduceLeDiff,Nat.reduceLT,Nat.reduceSub,reduceCtorEq,zGq] | ((with_reducible refine rows_intro (fun _ hb => ?_)); try simp only [set_none, ne_eq] at hb) | ((with_reducible refine new_intro (fun _ hb => ?_)); try simp only [set_none, ne_eq] at hb) | (with_reducible refine draw_same ?_) | ((with_reducible refine gd_split ?_ (fun _ => ?_) (fun _ => ?_)); exact rfl) | ((with_reducible refine td_split ?_ (fun _ => ?_) (fun _ => ?_)); exact rfl) | (with_reducible refine c_split (fun _ => ?_) (fun _ => ?_)))
    refine ret_same (h _ _ ?_)
    have r5 := r4.base (lx.trans lD)
    simp only [szS, compS, hel, if_true, Nat.add_zero, qcells_app, qcells_cons]
    simp only [List.append_assoc] at r5 ⊢
    exact r5
  | false =>
    have g3 := emp1 hel
    have w4 := nat_up (a := i + (compE e).length + 1 + szL body) (by omega)
    repeat' (first | simp -implicitDefEqProofs only [zG1,zG2,zG3,zG4,zG5,zG6,zG7,eq_self,resV,rval,X.val,binv,fillL,setR,↓reduceIte,Nat.reduceEqDiff,Nat.reduceAdd,Nat.reduceMul,Nat.reduceLeDiff,Nat.reduceLT,Nat.reduceSub,reduceCtorEq,zGq, g2, g3, w1, w2, w3, w4] | ((with_reducible refine rows_intro (fun _ hb => ?_)); try simp only [set_none, ne_eq] at hb) | ((with_reducible refine new_intro (fun _ hb => ?_)); try simp only [set_none, ne_eq] at hb) | (with_reducible refine draw_same ?_) | ((with_reducible refine gd_split ?_ (fun _ => ?_) (fun _ => ?_)); exact rfl) | ((with_reducible refine td_split ?_ (fun _ => ?_) (fun _ => ?_)); exact rfl) | (with_reducible refine c_split (fun _ => ?_) (fun _ => ?_)) | (with_reducible refine ih els A2 c2 _ _ _ hel' (by omega) (by omega) (hL.le (lx.trans (r1.hle.trans r2.hle))) (fun v3 C3 r3 => ?_)))
    obtain ⟨B3, e3, rfl, -⟩ := r3.fl
    have w5 := nat_add (a := i + (compE e).length + 1 + szL body + 1) (b := szL els) (by omega)
    repeat' (first | simp -implicitDefEqProofs only [zG1,zG2,zG3,zG4,zG5,zG6,zG7,eq_self,resV,rval,X.val,binv,fillL,setR,↓reduceIte,Nat.reduceEqDiff,Nat.reduceAdd,Nat.reduceMul,Nat.reduceLeDiff,Nat.reduceLT,Nat.reduceSub,reduceCtorEq,zGq, g3, w1, w2, w3, w4, w5] | ((with_reducible refine rows_intro (fun _ hb => ?_)); try simp only [set_none, ne_eq] at hb) | ((with_reducible refine new_intro (fun _ hb => ?_)); try simp only [set_none, ne_eq] at hb) | (with_reducible refine draw_same ?_) | ((with_reducible refine gd_split ?_ (fun _ => ?_) (fun _ => ?_)); exact rfl) | ((with_reducible refine td_split ?_ (fun _ => ?_) (fun _ => ?_)); exact rfl) | (with_reducible refine c_split (fun _ => ?_) (fun _ => ?_)))
    obtain ⟨D, lD, lD2, rD, kp⟩ := r1.cut r2.hle
    have r2' := kp _ _ _ _ _ r2
    obtain ⟨D', lD', lD2', rD', kp'⟩ := r1.cut (r2.hle.trans r3.hle)
    have r3' := kp' _ _ _ _ _ (r3.base r2.hle)
    have r2a := kp' _ _ _ _ _ (r2.le r3.hle)
    refine rD'.app1 (m := 1) ‹_› rfl (by simp [ocI]) (by simp only [maxLen]; omega) (by omega) (fun v4 C4 r4 => ?_)
    repeat' (first | simp -implicitDefEqProofs only [zG1,zG2,zG3,zG4,zG5,zG6,zG7,eq_self,resV,rval,X.val,binv,fillL,setR,↓reduceIte,Nat.reduceEqDiff,Nat.reduceAdd,Nat.reduceMul,Nat.reduceLeDiff,Nat.reduceLT,Nat.reduceSub,reduceCtorEq,zGq, g3, w1, w2, w3, w4, w5] | ((with_reducible refine rows_intro (fun _ hb => ?_)); try simp only [set_none, ne_eq] at hb) | ((with_reducible refine new_intro (fun _ hb => ?_)); try simp only [set_none, ne_eq] at hb) | (with_reducible refine draw_same ?_) | ((with_reducible refine gd_split ?_ (fun _ => ?_) (fun _ => ?_)); exact rfl) | ((with_reducible refine td_split ?_ (fun _ => ?_) (fun _ => ?_)); exact rfl) | (with_reducible refine c_split (fun _ => ?_) (fun _ => ?_)))
    refine r4.app (r2a.le r4.hle).fl'.1 (by rw [qcells_len, compL_len]; rfl) (qcells_oc _) (by simp only [maxLen]; omega) (by omega) (fun v5 C5 r5 => ?_)
    repeat' (first | simp -implicitDefEqProofs only [zG1,zG2,zG3,zG4,zG5,zG6,zG7,eq_self,resV,rval,X.val,binv,fillL,setR,↓reduceIte,Nat.reduceEqDiff,Nat.reduceAdd,Nat.reduceMul,Nat.reduceLeDiff,Nat.reduceLT,Nat.reduceSub,reduceCtorEq,zGq, g3, w1, w2, w3, w4, w5] | ((with_reducible refine rows_intro (fun _ hb => ?_)); try simp only [set_none, ne_eq] at hb) | ((with_reducible refine new_intro (fun _ hb => ?_)); try simp only [set_none, ne_eq] at hb) | (with_reducible refine draw_same ?_) | ((with_reducible refine gd_split ?_ (fun _ => ?_) (fun _ => ?_)); exact rfl) | ((with_reducible refine td_split ?_ (fun _ => ?_) (fun _ => ?_)); exact rfl) | (with_reducible refine c_split (fun _ => ?_) (fun _ => ?_)))
    refine r5.app1 (m := 1) ‹_› rfl (by simp [ocI]) (by simp only [maxLen]; omega) (by omega) (fun v6 C6 r6 => ?_)
    repeat' (first | simp -implicitDefEqProofs only [zG1,zG2,zG3,zG4,zG5,zG6,zG7,eq_self,resV,rval,X.val,binv,fillL,setR,↓reduceIte,Nat.reduceEqDiff,Nat.reduceAdd,Nat.reduceMul,Nat.reduceLeDiff,Nat.reduceLT,Nat.reduceSub,reduceCtorEq,zGq, g3, w1, w2, w3, w4, w5] | ((with_reducible refine rows_intro (fun _ hb => ?_)); try simp only [set_none, ne_eq] at hb) | ((with_reducible refine new_intro (fun _ hb => ?_)); try simp only [set_none, ne_eq] at hb) | (with_reducible refine draw_same ?_) | ((with_reducible refine gd_split ?_ (fun _ => ?_) (fun _ => ?_)); exact rfl) | ((with_reducible refine td_split ?_ (fun _ => ?_) (fun _ => ?_)); exact rfl) | (with_reducible refine c_split (fun _ => ?_) (fun _ => ?_)))
    refine r6.app (r3'.le r6.hle).fl'.1 (by rw [qcells_len, compL_len]; rfl) (qcells_oc _) (by simp only [maxLen]; omega) (by omega) (fun v7 C7 r7 => ?_)
    repeat' (first | simp -implicitDefEqProofs only [zG1,zG2,zG3,zG4,zG5,zG6,zG7,eq_self,resV,rval,X.val,binv,fillL,setR,↓reduceIte,Nat.reduceEqDiff,Nat.reduceAdd,Nat.reduceMul,Nat.reduceLeDiff,Nat.reduceLT,Nat.reduceSub,reduceCtorEq,zGq] | ((with_reducible refine rows_intro (fun _ hb => ?_)); try simp only [set_none, ne_eq] at hb) | ((with_reducible refine new_intro (fun _ hb => ?_)); try simp only [set_none, ne_eq] at hb) | (with_reducible refine draw_same ?_) | ((with_reducible refine gd_split ?_ (fun _ => ?_) (fun _ => ?_)); exact rfl) | ((with_reducible refine td_split ?_ (fun _ => ?_) (fun _ => ?_)); exact rfl) | (with_reducible refine c_split (fun _ => ?_) (fun _ => ?_)))
    refine ret_same (h _ _ ?_)
    have r8 := r7.base (lx.trans lD')
    simp only [szS, compS, hel, if_true, Bool.false_eq_true, if_false, qcells_app, qcells_cons]
    simp only [List.append_assoc, Nat.add_assoc] at r8 ⊢
    exact r8
theorem l22While_ok (d : Nat) (ih : LiP w0 d) (k v b : Int) (e : Ex) (body els : List St) (A0 : Option Addr) (c0 : Nat) (A1 : Option Addr) (c1 : Nat) (A2 : Option Addr) (c2 i : Nat) (H : AHeap) (K : Value → AHeap → Prop)
    (he : exprOk 5 e = true) (hbd : body.all (stOk d) = true) (hc : cntL body < 1048576) (hi : i ≤ 1099511627776 - 33 * (1 + cntL body))
    (hE : ExV H e [.int .i64 e.op, .int .i64 e.n, .slice A0 e.args.length c0]) (hB : StR H body A1 0)
    (h : ∀ v' C, Row H C 36 5 v' (szS (.mk 3 v b e body els)) (qcells (compS (.mk 3 v b e body els) i)) → K v' C) :
    ACalls Tryz.prog w0 79 [stv k v b e body.length els.length A0 c0 A1 c1 A2 c2, .int .i64 i] H K := by
  have n0 := compE_le e
  have n1 := szL_le body
  refine acalls_of_sx mix Tryz.func79 of79 (by simp [ir79]) ?_; rw [ir79]; (try delta qT qI qC qO qM qG)
  repeat' (first | simp -implicitDefEqProofs only [zG1,zG2,zG3,zG4,zG5,zG6,zG7,eq_self,resV,rval,X.val,binv,fillL,setR,↓reduceIte,Nat.reduceEqDiff,Nat.reduceAdd,Nat.reduceMul,Nat.reduceLeDiff,Nat.reduceLT,Nat.reduceSub,reduceCtorEq,zGq] | ((with_reducible refine rows_intro (fun _ hb => ?_)); try simp only [set_none, ne_eq] at hb) | ((with_reducible refine new_intro (fun _ hb => ?_)); try simp only [set_none, ne_eq] at hb) | (with_reducible refine draw_same ?_) | ((with_reducible refine gd_split ?_ (fun _ => ?_) (fun _ => ?_)); exact rfl) | ((with_reducible refine td_split ?_ (fun _ => ?_) (fun _ => ?_)); exact rfl) | (with_reducible refine c_split (fun _ => ?_) (fun _ => ?_)))
  rename_i x
  have hx := hb
  have lx := (AHeap.le.refl H).fresh hx ⟨[.int .i64 k, .int .i64 v, .int .i64 b, .int .i64 e.op, .int .i64 e.n, .slice A0 e.args.length c0, .slice A1 body.length c1, .slice A2 els.length c2], true, 75, 8⟩
  refine l22ExprR_ok _ e A0 c0 _ _ he (hE.le lx) (fun v1 C1 r1 => ?_)
  have g1 := fl_eight r1.hle
  obtain ⟨B1, e1, rfl, -⟩ := r1.fl
  have w1 := nat_add (a := i) (b := (compE e).length) (by omega)
  have w2 := nat_up (a := i + (compE e).length) (by omega)
  repeat' (first | simp -implicitDefEqProofs only [zG1,zG2,zG3,zG4,zG5,zG6,zG7,eq_self,resV,rval,X.val,binv,fillL,setR,↓reduceIte,Nat.reduceEqDiff,Nat.reduceAdd,Nat.reduceMul,Nat.reduceLeDiff,Nat.reduceLT,Nat.reduceSub,reduceCtorEq,zGq, g1, w1, w2] | ((with_reducible refine rows_intro (fun _ hb => ?_)); try simp only [set_none, ne_eq] at hb) | ((with_reducible refine new_intro (fun _ hb => ?_)); try simp only [set_none, ne_eq] at hb) | (with_reducible refine draw_same ?_) | ((with_reducible refine gd_split ?_ (fun _ => ?_) (fun _ => ?_)); exact rfl) | ((with_reducible refine td_split ?_ (fun _ => ?_) (fun _ => ?_)); exact rfl) | (with_reducible refine c_split (fun _ => ?_) (fun _ => ?_)) | (with_reducible refine ih body A1 c1 _ _ _ hbd (by omega) (by omega) (hB.le (lx.trans r1.hle)) (fun v2 C2 r2 => ?_)))
  have g2 := fl_eight (r1.hle.trans r2.hle)
  obtain ⟨B2, e2, rfl, -⟩ := r2.fl
  have w3 := nat_add (a := i + (compE e).length + 1) (b := szL body) (by omega)
  have w4 := nat_up (a := i + (compE e).length + 1 + szL body) (by omega)
  repeat' (first | simp -implicitDefEqProofs only [zG1,zG2,zG3,zG4,zG5,zG6,zG7,eq_self,resV,rval,X.val,binv,fillL,setR,↓reduceIte,Nat.reduceEqDiff,Nat.reduceAdd,Nat.reduceMul,Nat.reduceLeDiff,Nat.reduceLT,Nat.reduceSub,reduceCtorEq,zGq, g2, w1, w2, w3, w4] | ((with_reducible refine rows_intro (fun _ hb => ?_)); try simp only [set_none, ne_eq] at hb) | ((with_reducible refine new_intro (fun _ hb => ?_)); try simp only [set_none, ne_eq] at hb) | (with_reducible refine draw_same ?_) | ((with_reducible refine gd_split ?_ (fun _ => ?_) (fun _ => ?_)); exact rfl) | ((with_reducible refine td_split ?_ (fun _ => ?_) (fun _ => ?_)); exact rfl) | (with_reducible refine c_split (fun _ => ?_) (fun _ => ?_)))
  obtain ⟨D, lD, lD2, rD, kp⟩ := r1.cut r2.hle
  have r2' := kp _ _ _ _ _ r2
  refine rD.app1 (m := 1) ‹_› rfl (by simp [ocI]) (by simp only [maxLen]; omega) (by omega) (fun v3 C3 r3 => ?_)
  repeat' (first | simp -implicitDefEqProofs only [zG1,zG2,zG3,zG4,zG5,zG6,zG7,eq_self,resV,rval,X.val,binv,fillL,setR,↓reduceIte,Nat.reduceEqDiff,Nat.reduceAdd,Nat.reduceMul,Nat.reduceLeDiff,Nat.reduceLT,Nat.reduceSub,reduceCtorEq,zGq, g2, w1, w2, w3, w4] | ((with_reducible refine rows_intro (fun _ hb => ?_)); try simp only [set_none, ne_eq] at hb) | ((with_reducible refine new_intro (fun _ hb => ?_)); try simp only [set_none, ne_eq] at hb) | (with_reducible refine draw_same ?_) | ((with_reducible refine gd_split ?_ (fun _ => ?_) (fun _ => ?_)); exact rfl) | ((with_reducible refine td_split ?_ (fun _ => ?_) (fun _ => ?_)); exact rfl) | (with_reducible refine c_split (fun _ => ?_) (fun _ => ?_)))
  refine r3.app (r2'.le r3.hle).fl'.1 (by rw [qcells_len, compL_len]; rfl) (qcells_oc _) (by simp only [maxLen]; omega) (by omega) (fun v4 C4 r4 => ?_)
  repeat' (first | simp -implicitDefEqProofs only [zG1,zG2,zG3,zG4,zG5,zG6,zG7,eq_self,resV,rval,X.val,binv,fillL,setR,↓reduceIte,Nat.reduceEqDiff,Nat.reduceAdd,Nat.reduceMul,Nat.reduceLeDiff,Nat.reduceLT,Nat.reduceSub,reduceCtorEq,zGq] | ((with_reducible refine rows_intro (fun _ hb => ?_)); try simp only [set_none, ne_eq] at hb) | ((with_reducible refine new_intro (fun _ hb => ?_)); try simp only [set_none, ne_eq] at hb) | (with_reducible refine draw_same ?_) | ((with_reducible refine gd_split ?_ (fun _ => ?_) (fun _ => ?_)); exact rfl) | ((with_reducible refine td_split ?_ (fun _ => ?_) (fun _ => ?_)); exact rfl) | (with_reducible refine c_split (fun _ => ?_) (fun _ => ?_)))
  refine r4.app1 (m := 1) ‹_› rfl (by simp [ocI]) (by simp only [maxLen]; omega) (by omega) (fun v5 C5 r5 => ?_)
  repeat' (first | simp -implicitDefEqProofs only [zG1,zG2,zG3,zG4,zG5,zG6,zG7,eq_self,resV,rval,X.val,binv,fillL,setR,↓reduceIte,Nat.reduceEqDiff,Nat.reduceAdd,Nat.reduceMul,Nat.reduceLeDiff,Nat.reduceLT,Nat.reduceSub,reduceCtorEq,zGq] | ((with_reducible refine rows_intro (fun _ hb => ?_)); try simp only [set_none, ne_eq] at hb) | ((with_reducible refine new_intro (fun _ hb => ?_)); try simp only [set_none, ne_eq] at hb) | (with_reducible refine draw_same ?_) | ((with_reducible refine gd_split ?_ (fun _ => ?_) (fun _ => ?_)); exact rfl) | ((with_reducible refine td_split ?_ (fun _ => ?_) (fun _ => ?_)); exact rfl) | (with_reducible refine c_split (fun _ => ?_) (fun _ => ?_)))
  refine ret_same (h _ _ ?_)
  have r6 := r5.base (lx.trans lD)
  have e6 : (compE e).length + 2 + szL body = (compE e).length + 1 + szL body + 1 := by omega
  have e7 : szS (.mk 3 v b e body els) = (compE e).length + 1 + szL body + 1 := by rw [← e6]; simp [szS]
  rw [e7]
  have e8 : compS (.mk 3 v b e body els) i = compE e ++ ⟨5, 0, 4, 0, ((i + (compE e).length + 1 + szL body + 1 : Nat) : Int)⟩ :: (compL body (i + (compE e).length + 1) ++ [⟨4, 0, 0, 0, (i : Int)⟩]) := by simp [compS]
  rw [e8]
  simp only [qcells_app, qcells_cons, List.append_assoc] at r6 ⊢
  exact r6
/-- The quad behind a statement's expression. -/
theorem siP_of (d : Nat) (ih : ∀ d', d = d' + 1 → LiP w0 d') : SiP w0 d := by
  intro s A0 c0 A1 c1 A2 c2 i H K ho hc hi hv h
  obtain ⟨hE, ⟨hb1, hb2⟩, hl1, hl2⟩ := hv.parts
  have he := stOk_e ho
  have hcs := s.cnt_eq
  have n0 := compE_le s.e
  refine acalls_of_sx mix Tryz.func70 of70 (by simp [ir70]) ?_; rw [ir70]; (try delta qT qI qC qO qM qG)
  repeat' (first | simp -implicitDefEqProofs only [zG1,zG2,zG3,zG4,zG5,zG6,zG7,eq_self,resV,rval,X.val,binv,fillL,setR,↓reduceIte,Nat.reduceEqDiff,Nat.reduceAdd,Nat.reduceMul,Nat.reduceLeDiff,Nat.reduceLT,Nat.reduceSub,reduceCtorEq,zGq] | ((with_reducible refine rows_intro (fun _ hb => ?_)); try simp only [set_none, ne_eq] at hb) | ((with_reducible refine new_intro (fun _ hb => ?_)); try simp only [set_none, ne_eq] at hb) | (with_reducible refine draw_same ?_) | ((with_reducible refine gd_split ?_ (fun _ => ?_) (fun _ => ?_)); exact rfl) | ((with_reducible refine td_split ?_ (fun _ => ?_) (fun _ => ?_)); exact rfl) | (with_reducible refine c_split (fun _ => ?_) (fun _ => ?_)))
  rename_i x
  have hx := hb
  have lx := (AHeap.le.refl H).fresh hx ⟨[.int .i64 s.kind, .int .i64 s.var, .int .i64 s.box, .int .i64 s.e.op, .int .i64 s.e.n, .slice A0 s.e.args.length c0, .slice A1 s.body.length c1, .slice A2 s.els.length c2], true, 75, 8⟩
  refine l22ExprR_ok _ s.e A0 c0 _ _ he (hE.le lx) (fun v1 C1 r1 => ?_)
  have g1 := fl_eight r1.hle
  have lx1 := lx.trans r1.hle
  by_cases hk : s.kind = 2 ∨ s.kind = 3
  · obtain ⟨d', rfl, hbk, hbd, hel⟩ := stOk_block ho hk
    have ihd := ih d' rfl
    cases s with
    | mk k v b e body els =>
      simp only [St.kind, St.var, St.box, St.e, St.body, St.els] at *
      rcases hk with rfl | rfl
      · repeat' (first | simp -implicitDefEqProofs only [zG1,zG2,zG3,zG4,zG5,zG6,zG7,eq_self,resV,rval,X.val,binv,fillL,setR,↓reduceIte,Nat.reduceEqDiff,Nat.reduceAdd,Nat.reduceMul,Nat.reduceLeDiff,Nat.reduceLT,Nat.reduceSub,reduceCtorEq,zGq, g1, Int.reduceBEq] | ((with_reducible refine rows_intro (fun _ hb => ?_)); try simp only [set_none, ne_eq] at hb) | ((with_reducible refine new_intro (fun _ hb => ?_)); try simp only [set_none, ne_eq] at hb) | (with_reducible refine draw_same ?_) | ((with_reducible refine gd_split ?_ (fun _ => ?_) (fun _ => ?_)); exact rfl) | ((with_reducible refine td_split ?_ (fun _ => ?_) (fun _ => ?_)); exact rfl) | (with_reducible refine c_split (fun _ => ?_) (fun _ => ?_)))
        refine l22If_ok w0 d' ihd _ _ _ e body els A0 c0 A1 c1 A2 c2 i _ _ he hbd hel (by omega) (by omega) (hE.le lx1) (hb2.le lx1) (hl2.le lx1) (fun v2 C2 r2 => ?_)
        repeat' (first | simp -implicitDefEqProofs only [zG1,zG2,zG3,zG4,zG5,zG6,zG7,eq_self,resV,rval,X.val,binv,fillL,setR,↓reduceIte,Nat.reduceEqDiff,Nat.reduceAdd,Nat.reduceMul,Nat.reduceLeDiff,Nat.reduceLT,Nat.reduceSub,reduceCtorEq,zGq] | ((with_reducible refine rows_intro (fun _ hb => ?_)); try simp only [set_none, ne_eq] at hb) | ((with_reducible refine new_intro (fun _ hb => ?_)); try simp only [set_none, ne_eq] at hb) | (with_reducible refine draw_same ?_) | ((with_reducible refine gd_split ?_ (fun _ => ?_) (fun _ => ?_)); exact rfl) | ((with_reducible refine td_split ?_ (fun _ => ?_) (fun _ => ?_)); exact rfl) | (with_reducible refine c_split (fun _ => ?_) (fun _ => ?_)))
        exact ret_same (h _ _ (r2.base lx1))
      · repeat' (first | simp -implicitDefEqProofs only [zG1,zG2,zG3,zG4,zG5,zG6,zG7,eq_self,resV,rval,X.val,binv,fillL,setR,↓reduceIte,Nat.reduceEqDiff,Nat.reduceAdd,Nat.reduceMul,Nat.reduceLeDiff,Nat.reduceLT,Nat.reduceSub,reduceCtorEq,zGq, g1, Int.reduceBEq] | ((with_reducible refine rows_intro (fun _ hb => ?_)); try simp only [set_none, ne_eq] at hb) | ((with_reducible refine new_intro (fun _ hb => ?_)); try simp only [set_none, ne_eq] at hb) | (with_reducible refine draw_same ?_) | ((with_reducible refine gd_split ?_ (fun _ => ?_) (fun _ => ?_)); exact rfl) | ((with_reducible refine td_split ?_ (fun _ => ?_) (fun _ => ?_)); exact rfl) | (with_reducible refine c_split (fun _ => ?_) (fun _ => ?_)))
        refine l22While_ok w0 d' ihd _ _ _ e body els A0 c0 A1 c1 A2 c2 i _ _ he hbd (by omega) (by omega) (hE.le lx1) (hb2.le lx1) (fun v2 C2 r2 => ?_)
        repeat' (first | simp -implicitDefEqProofs only [zG1,zG2,zG3,zG4,zG5,zG6,zG7,eq_self,resV,rval,X.val,binv,fillL,setR,↓reduceIte,Nat.reduceEqDiff,Nat.reduceAdd,Nat.reduceMul,Nat.reduceLeDiff,Nat.reduceLT,Nat.reduceSub,reduceCtorEq,zGq] | ((with_reducible refine rows_intro (fun _ hb => ?_)); try simp only [set_none, ne_eq] at hb) | ((with_reducible refine new_intro (fun _ hb => ?_)); try simp only [set_none, ne_eq] at hb) | (with_reducible refine draw_same ?_) | ((with_reducible refine gd_split ?_ (fun _ => ?_) (fun _ => ?_)); exact rfl) | ((with_reducible refine td_split ?_ (fun _ => ?_) (fun _ => ?_)); exact rfl) | (with_reducible refine c_split (fun _ => ?_) (fun _ => ?_)))
        exact ret_same (h _ _ (r2.base lx1))
  · have hs := stOk_simple ho (fun e => hk (.inl e)) (fun e => hk (.inr e))
    have hkk := simple_kind hs
    obtain ⟨q, e0, -, -, -, -, eq⟩ := simple_q hs i
    have hz : szS s = (if s.kind = 5 ∨ s.kind = 6 then 0 else (compE s.e).length) + 1 := by
      rw [← compS_len s i, e0]
      split <;> simp
    rw [hz, e0, qcells_app, qcells_one'] at h
    clear hv hE hb2 hl2 ho hs
    generalize s.kind = k, s.var = v, s.box = b at *
    rcases hkk with rfl | rfl | rfl | rfl | rfl
    · simp at eq
      subst eq
      repeat' (first | simp -implicitDefEqProofs only [zG1,zG2,zG3,zG4,zG5,zG6,zG7,eq_self,resV,rval,X.val,binv,fillL,setR,↓reduceIte,Nat.reduceEqDiff,Nat.reduceAdd,Nat.reduceMul,Nat.reduceLeDiff,Nat.reduceLT,Nat.reduceSub,reduceCtorEq,zGq, g1, Int.reduceBEq] | ((with_reducible refine rows_intro (fun _ hb => ?_)); try simp only [set_none, ne_eq] at hb) | ((with_reducible refine new_intro (fun _ hb => ?_)); try simp only [set_none, ne_eq] at hb) | (with_reducible refine draw_same ?_) | ((with_reducible refine gd_split ?_ (fun _ => ?_) (fun _ => ?_)); exact rfl) | ((with_reducible refine td_split ?_ (fun _ => ?_) (fun _ => ?_)); exact rfl) | (with_reducible refine c_split (fun _ => ?_) (fun _ => ?_)))
      refine r1.app1 (m := 1) ‹_› rfl (by simp [ocI]) (by simp only [maxLen]; omega) (by omega) (fun v3 C3 r3 => ?_)
      repeat' (first | simp -implicitDefEqProofs only [zG1,zG2,zG3,zG4,zG5,zG6,zG7,eq_self,resV,rval,X.val,binv,fillL,setR,↓reduceIte,Nat.reduceEqDiff,Nat.reduceAdd,Nat.reduceMul,Nat.reduceLeDiff,Nat.reduceLT,Nat.reduceSub,reduceCtorEq,zGq] | ((with_reducible refine rows_intro (fun _ hb => ?_)); try simp only [set_none, ne_eq] at hb) | ((with_reducible refine new_intro (fun _ hb => ?_)); try simp only [set_none, ne_eq] at hb) | (with_reducible refine draw_same ?_) | ((with_reducible refine gd_split ?_ (fun _ => ?_) (fun _ => ?_)); exact rfl) | ((with_reducible refine td_split ?_ (fun _ => ?_) (fun _ => ?_)); exact rfl) | (with_reducible refine c_split (fun _ => ?_) (fun _ => ?_)))
      exact ret_same (h _ _ (by simpa using r3.base lx))
    · simp at eq
      subst eq
      repeat' (first | simp -implicitDefEqProofs only [zG1,zG2,zG3,zG4,zG5,zG6,zG7,eq_self,resV,rval,X.val,binv,fillL,setR,↓reduceIte,Nat.reduceEqDiff,Nat.reduceAdd,Nat.reduceMul,Nat.reduceLeDiff,Nat.reduceLT,Nat.reduceSub,reduceCtorEq,zGq, g1, Int.reduceBEq] | ((with_reducible refine rows_intro (fun _ hb => ?_)); try simp only [set_none, ne_eq] at hb) | ((with_reducible refine new_intro (fun _ hb => ?_)); try simp only [set_none, ne_eq] at hb) | (with_reducible refine draw_same ?_) | ((with_reducible refine gd_split ?_ (fun _ => ?_) (fun _ => ?_)); exact rfl) | ((with_reducible refine td_split ?_ (fun _ => ?_) (fun _ => ?_)); exact rfl) | (with_reducible refine c_split (fun _ => ?_) (fun _ => ?_)))
      refine r1.app1 (m := 1) ‹_› rfl (by simp [ocI]) (by simp only [maxLen]; omega) (by omega) (fun v3 C3 r3 => ?_)
      repeat' (first | simp -implicitDefEqProofs only [zG1,zG2,zG3,zG4,zG5,zG6,zG7,eq_self,resV,rval,X.val,binv,fillL,setR,↓reduceIte,Nat.reduceEqDiff,Nat.reduceAdd,Nat.reduceMul,Nat.reduceLeDiff,Nat.reduceLT,Nat.reduceSub,reduceCtorEq,zGq] | ((with_reducible refine rows_intro (fun _ hb => ?_)); try simp only [set_none, ne_eq] at hb) | ((with_reducible refine new_intro (fun _ hb => ?_)); try simp only [set_none, ne_eq] at hb) | (with_reducible refine draw_same ?_) | ((with_reducible refine gd_split ?_ (fun _ => ?_) (fun _ => ?_)); exact rfl) | ((with_reducible refine td_split ?_ (fun _ => ?_) (fun _ => ?_)); exact rfl) | (with_reducible refine c_split (fun _ => ?_) (fun _ => ?_)))
      exact ret_same (h _ _ (by simpa using r3.base lx))
    · simp at eq
      subst eq
      repeat' (first | simp -implicitDefEqProofs only [zG1,zG2,zG3,zG4,zG5,zG6,zG7,eq_self,resV,rval,X.val,binv,fillL,setR,↓reduceIte,Nat.reduceEqDiff,Nat.reduceAdd,Nat.reduceMul,Nat.reduceLeDiff,Nat.reduceLT,Nat.reduceSub,reduceCtorEq,zGq, g1, Int.reduceBEq] | ((with_reducible refine rows_intro (fun _ hb => ?_)); try simp only [set_none, ne_eq] at hb) | ((with_reducible refine new_intro (fun _ hb => ?_)); try simp only [set_none, ne_eq] at hb) | (with_reducible refine draw_same ?_) | ((with_reducible refine gd_split ?_ (fun _ => ?_) (fun _ => ?_)); exact rfl) | ((with_reducible refine td_split ?_ (fun _ => ?_) (fun _ => ?_)); exact rfl) | (with_reducible refine c_split (fun _ => ?_) (fun _ => ?_)))
      exact ret_same (h _ _ (by simpa [qcells] using (Row.lit (sz := 5) (n := 1) hb rfl rfl (by decide)).base lx1))
    · simp at eq
      subst eq
      repeat' (first | simp -implicitDefEqProofs only [zG1,zG2,zG3,zG4,zG5,zG6,zG7,eq_self,resV,rval,X.val,binv,fillL,setR,↓reduceIte,Nat.reduceEqDiff,Nat.reduceAdd,Nat.reduceMul,Nat.reduceLeDiff,Nat.reduceLT,Nat.reduceSub,reduceCtorEq,zGq, g1, Int.reduceBEq] | ((with_reducible refine rows_intro (fun _ hb => ?_)); try simp only [set_none, ne_eq] at hb) | ((with_reducible refine new_intro (fun _ hb => ?_)); try simp only [set_none, ne_eq] at hb) | (with_reducible refine draw_same ?_) | ((with_reducible refine gd_split ?_ (fun _ => ?_) (fun _ => ?_)); exact rfl) | ((with_reducible refine td_split ?_ (fun _ => ?_) (fun _ => ?_)); exact rfl) | (with_reducible refine c_split (fun _ => ?_) (fun _ => ?_)))
      exact ret_same (h _ _ (by simpa [qcells] using (Row.lit (sz := 5) (n := 1) hb rfl rfl (by decide)).base lx1))
    · simp at eq
      subst eq
      repeat' (first | simp -implicitDefEqProofs only [zG1,zG2,zG3,zG4,zG5,zG6,zG7,eq_self,resV,rval,X.val,binv,fillL,setR,↓reduceIte,Nat.reduceEqDiff,Nat.reduceAdd,Nat.reduceMul,Nat.reduceLeDiff,Nat.reduceLT,Nat.reduceSub,reduceCtorEq,zGq, g1, Int.reduceBEq] | ((with_reducible refine rows_intro (fun _ hb => ?_)); try simp only [set_none, ne_eq] at hb) | ((with_reducible refine new_intro (fun _ hb => ?_)); try simp only [set_none, ne_eq] at hb) | (with_reducible refine draw_same ?_) | ((with_reducible refine gd_split ?_ (fun _ => ?_) (fun _ => ?_)); exact rfl) | ((with_reducible refine td_split ?_ (fun _ => ?_) (fun _ => ?_)); exact rfl) | (with_reducible refine c_split (fun _ => ?_) (fun _ => ?_)))
      refine r1.app1 (m := 1) ‹_› rfl (by simp [ocI]) (by simp only [maxLen]; omega) (by omega) (fun v3 C3 r3 => ?_)
      repeat' (first | simp -implicitDefEqProofs only [zG1,zG2,zG3,zG4,zG5,zG6,zG7,eq_self,resV,rval,X.val,binv,fillL,setR,↓reduceIte,Nat.reduceEqDiff,Nat.reduceAdd,Nat.reduceMul,Nat.reduceLeDiff,Nat.reduceLT,Nat.reduceSub,reduceCtorEq,zGq] | ((with_reducible refine rows_intro (fun _ hb => ?_)); try simp only [set_none, ne_eq] at hb) | ((with_reducible refine new_intro (fun _ hb => ?_)); try simp only [set_none, ne_eq] at hb) | (with_reducible refine draw_same ?_) | ((with_reducible refine gd_split ?_ (fun _ => ?_) (fun _ => ?_)); exact rfl) | ((with_reducible refine td_split ?_ (fun _ => ?_) (fun _ => ?_)); exact rfl) | (with_reducible refine c_split (fun _ => ?_) (fun _ => ?_)))
      exact ret_same (h _ _ (by simpa using r3.base lx))
end Go.Proofs.YtodhkodhndbpmaaGreat
namespace Go.Proofs.YtodhkodhndbpmaaGreat
set_option linter.all false
open Go Go.RowKit
set_option maxRecDepth 100000
variable (w0 : World)
theorem liP_of (d : Nat) (ih : SiP w0 d) : LiP w0 d := by
  intro ss A c i H K ho hc hi hR h
  have hl := cntL_len ss
  have hs := szL_le ss
  refine acalls_of_sx mix Tryz.func62 of62 (by simp [ir62]) ?_; rw [ir62]; (try delta qT qI qC qO qM qG)
  repeat' (first | simp -implicitDefEqProofs only [zG1,zG2,zG3,zG4,zG5,zG6,zG7,eq_self,resV,rval,X.val,binv,fillL,setR,↓reduceIte,Nat.reduceEqDiff,Nat.reduceAdd,Nat.reduceMul,Nat.reduceLeDiff,Nat.reduceLT,Nat.reduceSub,reduceCtorEq,zGq] | ((with_reducible refine rows_intro (fun _ hb => ?_)); try simp only [set_none, ne_eq] at hb) | ((with_reducible refine new_intro (fun _ hb => ?_)); try simp only [set_none, ne_eq] at hb) | (with_reducible refine draw_same ?_) | ((with_reducible refine gd_split ?_ (fun _ => ?_) (fun _ => ?_)); exact rfl) | ((with_reducible refine td_split ?_ (fun _ => ?_) (fun _ => ?_)); exact rfl) | (with_reducible refine c_split (fun _ => ?_) (fun _ => ?_)))
  refine for_rule ss.length (fun k fr C => ∃ v, Row H C 36 5 v (szL (ss.take k)) (qcells (compL (ss.take k) i)) ∧ fr 0 = .slice A ss.length c ∧ fr 1 = .int .i64 i ∧ fr 5 = v ∧ fr 6 = .int .i64 k)
    ⟨_, Row.lit0 hb, (by first | rfl | (simp only [put_at, ↓reduceIte, Nat.reduceEqDiff]; first | done | rfl | assumption) | simp [put_at, *]), (by first | rfl | (simp only [put_at, ↓reduceIte, Nat.reduceEqDiff]; first | done | rfl | assumption) | simp [put_at, *]), (by first | rfl | (simp only [put_at, ↓reduceIte, Nat.reduceEqDiff]; first | done | rfl | assumption) | simp [put_at, *]), (by first | rfl | (simp only [put_at, ↓reduceIte, Nat.reduceEqDiff]; first | done | rfl | assumption) | simp [put_at, *])⟩ ?_ ?_
  · rintro k fr C hk ⟨v, r1, f0, f1, f5, f6⟩ N hN
    obtain ⟨A5, e5, rfl, -⟩ := r1.fl
    have g0 := lt_dec hk
    have g1 := rng hk
    have g2 := up1 hk (by omega)
    obtain ⟨gA, a0, d0, a1, d1, a2, d2, gp, hx⟩ := (hR.le r1.hle).arg hk
    have hct := cntL_at hk
    have hsz := szL_take hk
    have hcm := compL_take hk i
    have hst := cntL_take hk
    have hle := cntL_le (ss := ss) (k + 1)
    have hs2 := szL_le (ss.take k)
    have hs3 := szS_le ss[k]
    have w1 := nat_add (a := i) (b := szL (ss.take k)) (by omega)
    have hok := List.all_eq_true.1 ho _ (List.getElem_mem hk)
    repeat' (first | simp -implicitDefEqProofs only [zG1,zG2,zG3,zG4,zG5,zG6,zG7,eq_self,resV,rval,X.val,binv,fillL,setR,↓reduceIte,Nat.reduceEqDiff,Nat.reduceAdd,Nat.reduceMul,Nat.reduceLeDiff,Nat.reduceLT,Nat.reduceSub,reduceCtorEq,zGq, f0, f1, f5, f6, g0, g1, g2, gA, gp, w1, Nat.add_zero] | ((with_reducible refine rows_intro (fun _ hb => ?_)); try simp only [set_none, ne_eq] at hb) | ((with_reducible refine new_intro (fun _ hb => ?_)); try simp only [set_none, ne_eq] at hb) | (with_reducible refine draw_same ?_) | ((with_reducible refine gd_split ?_ (fun _ => ?_) (fun _ => ?_)); exact rfl) | ((with_reducible refine td_split ?_ (fun _ => ?_) (fun _ => ?_)); exact rfl) | (with_reducible refine c_split (fun _ => ?_) (fun _ => ?_)) | (with_reducible refine ih ss[k] a0 d0 a1 d1 a2 d2 _ _ _ hok (by omega) (by omega) hx (fun v2 C2 r2 => ?_)))
    obtain ⟨A6, e6, rfl, f2⟩ := r2.fl
    repeat' (first | simp -implicitDefEqProofs only [zG1,zG2,zG3,zG4,zG5,zG6,zG7,eq_self,resV,rval,X.val,binv,fillL,setR,↓reduceIte,Nat.reduceEqDiff,Nat.reduceAdd,Nat.reduceMul,Nat.reduceLeDiff,Nat.reduceLT,Nat.reduceSub,reduceCtorEq,zGq] | ((with_reducible refine rows_intro (fun _ hb => ?_)); try simp only [set_none, ne_eq] at hb) | ((with_reducible refine new_intro (fun _ hb => ?_)); try simp only [set_none, ne_eq] at hb) | (with_reducible refine draw_same ?_) | ((with_reducible refine gd_split ?_ (fun _ => ?_) (fun _ => ?_)); exact rfl) | ((with_reducible refine td_split ?_ (fun _ => ?_) (fun _ => ?_)); exact rfl) | (with_reducible refine c_split (fun _ => ?_) (fun _ => ?_)))
    refine (r1.le r2.hle).app f2 (by rw [qcells_len, compS_len]; rfl) (qcells_oc _) (by simp only [maxLen]; omega) (by omega) (fun v3 C3 r3 => ?_)
    repeat' (first | simp -implicitDefEqProofs only [zG1,zG2,zG3,zG4,zG5,zG6,zG7,eq_self,resV,rval,X.val,binv,fillL,setR,↓reduceIte,Nat.reduceEqDiff,Nat.reduceAdd,Nat.reduceMul,Nat.reduceLeDiff,Nat.reduceLT,Nat.reduceSub,reduceCtorEq,zGq, f0, f1, f5, f6, g2] | ((with_reducible refine rows_intro (fun _ hb => ?_)); try simp only [set_none, ne_eq] at hb) | ((with_reducible refine new_intro (fun _ hb => ?_)); try simp only [set_none, ne_eq] at hb) | (with_reducible refine draw_same ?_) | ((with_reducible refine gd_split ?_ (fun _ => ?_) (fun _ => ?_)); exact rfl) | ((with_reducible refine td_split ?_ (fun _ => ?_) (fun _ => ?_)); exact rfl) | (with_reducible refine c_split (fun _ => ?_) (fun _ => ?_)))
    refine hN _ _ _ (.refl _) ⟨_, ?_, (by first | rfl | (simp only [put_at, ↓reduceIte, Nat.reduceEqDiff]; first | done | rfl | assumption) | simp [put_at, *]), (by first | rfl | (simp only [put_at, ↓reduceIte, Nat.reduceEqDiff]; first | done | rfl | assumption) | simp [put_at, *]), (by first | rfl | (simp only [put_at, ↓reduceIte, Nat.reduceEqDiff]; first | done | rfl | assumption) | simp [put_at, *]), (by first | rfl | (simp only [put_at, ↓reduceIte, Nat.reduceEqDiff]; first | done | rfl | assumption) | simp [put_at, *])⟩
    rw [hsz, hcm, qcells_app]
    exact r3
  · rintro fr C ⟨v, r1, f0, f1, f5, f6⟩ N
    have g0 : decide ((ss.length : Int) < (ss.length : Int)) = false := by simp
    rw [List.take_length] at r1
    repeat' (first | simp -implicitDefEqProofs only [zG1,zG2,zG3,zG4,zG5,zG6,zG7,eq_self,resV,rval,X.val,binv,fillL,setR,↓reduceIte,Nat.reduceEqDiff,Nat.reduceAdd,Nat.reduceMul,Nat.reduceLeDiff,Nat.reduceLT,Nat.reduceSub,reduceCtorEq,zGq, f0, f1, f5, f6, g0] | ((with_reducible refine rows_intro (fun _ hb => ?_)); try simp only [set_none, ne_eq] at hb) | ((with_reducible refine new_intro (fun _ hb => ?_)); try simp only [set_none, ne_eq] at hb) | (with_reducible refine draw_same ?_) | ((with_reducible refine gd_split ?_ (fun _ => ?_) (fun _ => ?_)); exact rfl) | ((with_reducible refine td_split ?_ (fun _ => ?_) (fun _ => ?_)); exact rfl) | (with_reducible refine c_split (fun _ => ?_) (fun _ => ?_)))
    exact ret_same (h _ _ r1)
theorem liP : ∀ d, LiP w0 d
  | 0 => liP_of w0 0 (siP_of w0 0 fun d' h => by omega)
  | d + 1 => liP_of w0 (d + 1) (siP_of w0 (d + 1) fun d' h => by
    obtain rfl : d' = d := (by omega)
    exact liP d')
theorem l22List0_ok (ss : List St) (A : Option Addr) (c : Nat) (H : AHeap) (K : Value → AHeap → Prop) (ho : ss.all (stOk 3) = true) (hc : cntL ss ≤ 1048576) (hR : StR H ss A 0)
    (h : ∀ v C, Row H C 36 5 v (szL ss) (qcells (compL ss 0)) → K v C) : ACalls Tryz.prog w0 62 [.slice A ss.length c, .int .i64 0] H K := liP w0 3 ss A c 0 H K ho hc (by omega) hR h
theorem compileTaskS_ok (ss : List St) (A : Option Addr) (c : Nat) (H : AHeap) (K : Value → AHeap → Prop) (hc : cntL ss ≤ 1048576) (hR : StR H ss A 0)
    (h : ∀ v C, Row H C 36 5 v (compileTask ss).length (qcells (compileTask ss)) → K (.tuple #[v, .bool (stsOk ss)]) C) :
    ACalls Tryz.prog w0 56 [.slice A ss.length c] H K := by
  cases ho : stsOk ss with
  | false =>
    rw [ho] at h
    have e : compileTask ss = [] := by simp [compileTask, ho]
    rw [e] at h
    refine acalls_of_sx mix Tryz.func56 of56 (by simp [ir56]) ?_; rw [ir56]; (try delta qT qI qC qO qM qG)
    repeat' (first | simp -implicitDefEqProofs only [zG1,zG2,zG3,zG4,zG5,zG6,zG7,eq_self,resV,rval,X.val,binv,fillL,setR,↓reduceIte,Nat.reduceEqDiff,Nat.reduceAdd,Nat.reduceMul,Nat.reduceLeDiff,Nat.reduceLT,Nat.reduceSub,reduceCtorEq,zGq, ho] | ((with_reducible refine rows_intro (fun _ hb => ?_)); try simp only [set_none, ne_eq] at hb) | ((with_reducible refine new_intro (fun _ hb => ?_)); try simp only [set_none, ne_eq] at hb) | (with_reducible refine draw_same ?_) | ((with_reducible refine gd_split ?_ (fun _ => ?_) (fun _ => ?_)); exact rfl) | ((with_reducible refine td_split ?_ (fun _ => ?_) (fun _ => ?_)); exact rfl) | (with_reducible refine c_split (fun _ => ?_) (fun _ => ?_)) | (with_reducible refine stmtsValidS_ok _ ss A c _ _ (by omega) hR ?_))
    exact ret_same (h _ _ (Row.lit0 hb))
  | true =>
    rw [ho] at h
    have e : compileTask ss = compTask ss := by simp [compileTask, ho]
    rw [e] at h
    have hn := compTask_len ss
    have hs := szL_le ss
    have hall : ss.all (stOk 3) = true := by simp only [stsOk, Bool.and_eq_true] at ho; exact ho.1
    refine acalls_of_sx mix Tryz.func56 of56 (by simp [ir56]) ?_; rw [ir56]; (try delta qT qI qC qO qM qG)
    repeat' (first | simp -implicitDefEqProofs only [zG1,zG2,zG3,zG4,zG5,zG6,zG7,eq_self,resV,rval,X.val,binv,fillL,setR,↓reduceIte,Nat.reduceEqDiff,Nat.reduceAdd,Nat.reduceMul,Nat.reduceLeDiff,Nat.reduceLT,Nat.reduceSub,reduceCtorEq,zGq, ho] | ((with_reducible refine rows_intro (fun _ hb => ?_)); try simp only [set_none, ne_eq] at hb) | ((with_reducible refine new_intro (fun _ hb => ?_)); try simp only [set_none, ne_eq] at hb) | (with_reducible refine draw_same ?_) | ((with_reducible refine gd_split ?_ (fun _ => ?_) (fun _ => ?_)); exact rfl) | ((with_reducible refine td_split ?_ (fun _ => ?_) (fun _ => ?_)); exact rfl) | (with_reducible refine c_split (fun _ => ?_) (fun _ => ?_)) | (with_reducible refine stmtsValidS_ok _ ss A c _ _ (by omega) hR ?_) | (with_reducible refine l22List0_ok _ ss A c _ _ hall hc hR (fun v1 C1 r1 => ?_)))
    refine r1.app1 (m := 1) hb rfl (by simp [ocI]) (by simp only [maxLen]; omega) (by omega) (fun v2 C2 r2 => ?_)
    repeat' (first | simp -implicitDefEqProofs only [zG1,zG2,zG3,zG4,zG5,zG6,zG7,eq_self,resV,rval,X.val,binv,fillL,setR,↓reduceIte,Nat.reduceEqDiff,Nat.reduceAdd,Nat.reduceMul,Nat.reduceLeDiff,Nat.reduceLT,Nat.reduceSub,reduceCtorEq,zGq] | ((with_reducible refine rows_intro (fun _ hb => ?_)); try simp only [set_none, ne_eq] at hb) | ((with_reducible refine new_intro (fun _ hb => ?_)); try simp only [set_none, ne_eq] at hb) | (with_reducible refine draw_same ?_) | ((with_reducible refine gd_split ?_ (fun _ => ?_) (fun _ => ?_)); exact rfl) | ((with_reducible refine td_split ?_ (fun _ => ?_) (fun _ => ?_)); exact rfl) | (with_reducible refine c_split (fun _ => ?_) (fun _ => ?_)))
    refine ret_same (h _ _ ?_)
    rw [hn]
    simp only [compTask, qcells_app, qcells_one', haltQ]
    exact r2
end Go.Proofs.YtodhkodhndbpmaaGreat
namespace Go.Proofs.YtodhkodhndbpmaaGreat
set_option linter.all false
open Go Go.RowKit
set_option maxRecDepth 100000
variable (w0 : World) (H : AHeap) (K : Value → AHeap → Prop)
def nextL (q : Qd) (i : Int) : List Int := if q.op = 10 then [] else if q.op = 4 then [q.n] else if q.op = 5 ∧ q.n < i + 1 then [q.n, i + 1] else if q.op = 5 ∧ q.n > i + 1 then [i + 1, q.n] else [i + 1]
theorem nextL_le (q : Qd) (i : Int) : (nextL q i).length ≤ 2 := by
  simp only [nextL]
  repeat' split
  all_goals simp
theorem nextOf_ok (q : Qd) (i : Nat) (hi : i ≤ 1048576) (h : ∀ v H', Own H 3 1 v (nextL q i).length (ints (nextL q i)) H' → K v H') : ACalls Tryz.prog w0 29 [q.val, .int .i64 i] H K := by
  have e1 : IntKind.i64.wrap ((i : Int) + 1) = (i : Int) + 1 := wrap_i64 (by omega) (by omega)
  refine acalls_of_sx mix Tryz.func29 of29 (by simp [ir29]) ?_; rw [ir29]; (try delta qT qI qC qO qM qG)
  repeat' (first | simp -implicitDefEqProofs only [zG1,zG2,zG3,zG4,zG5,zG6,zG7,eq_self,resV,rval,X.val,binv,fillL,setR,↓reduceIte,Nat.reduceEqDiff,Nat.reduceAdd,Nat.reduceMul,Nat.reduceLeDiff,Nat.reduceLT,Nat.reduceSub,reduceCtorEq,zGr, q_val, e1] | ((with_reducible refine rows_intro (fun _ hb => ?_)); try simp only [set_none, ne_eq] at hb) | ((with_reducible refine new_intro (fun _ hb => ?_)); try simp only [set_none, ne_eq] at hb) | (with_reducible refine draw_same ?_) | ((with_reducible refine gd_split ?_ (fun _ => ?_) (fun _ => ?_)); exact rfl) | ((with_reducible refine td_split ?_ (fun _ => ?_) (fun _ => ?_)); exact rfl) | (with_reducible refine c_split (fun _ => ?_) (fun _ => ?_)))
  all_goals (try simp only [beq_iff_eq, beq_eq_false_iff_ne, bne_iff_ne, bne_eq_false_iff_eq, decide_eq_true_eq, decide_eq_false_iff_not, ne_eq, Bool.not_eq_true, Bool.not_eq_false, Bool.not_eq_eq_eq_not, Bool.not_true, Bool.not_false, Int.not_lt, Int.not_le, ge_iff_le, gt_iff_lt] at *)
  all_goals first
    | (refine ret_own h ((AHeap.le.refl H).fresh ‹H _ = none› _) (by exact hb.2) ?_ ?_ ?_ ?_ ?_ ?_)
    | (refine ⟨H, (AHeap.le.refl H).fresh ‹H _ = none› _, h _ _ (.inl ⟨rfl, ?_, ?_, rfl⟩)⟩)
  all_goals (try simp only [maxLen])
  all_goals ((try simp only [nextL]); grind [ints])
theorem l31Next_ok (A : Option Addr) (c : Nat) (qs : List Qd) (i : Nat) (hx : Fl H A (qcells qs)) (hi : i < qs.length) (hn : i ≤ 1048576) (h : ∀ v H', Own H 3 1 v (nextL qs[i] i).length (ints (nextL qs[i] i)) H' → K v H') :
    ACalls Tryz.prog w0 33 [.slice A qs.length c, .int .i64 i] H K := by
  have e1 : IntKind.i64.wrap ((i : Int) + 1) = (i : Int) + 1 := wrap_i64 (by omega) (by omega)
  have g1 := rng hi
  have p0 := hx.quad hi
  refine acalls_of_sx mix Tryz.func33 of33 (by simp [ir33]) ?_; rw [ir33]; (try delta qT qI qC qO qM qG)
  repeat' (first | simp -implicitDefEqProofs only [zG1,zG2,zG3,zG4,zG5,zG6,zG7,eq_self,resV,rval,X.val,binv,fillL,setR,↓reduceIte,Nat.reduceEqDiff,Nat.reduceAdd,Nat.reduceMul,Nat.reduceLeDiff,Nat.reduceLT,Nat.reduceSub,reduceCtorEq,zGr, e1, g1, p0, Nat.add_zero] | ((with_reducible refine rows_intro (fun _ hb => ?_)); try simp only [set_none, ne_eq] at hb) | ((with_reducible refine new_intro (fun _ hb => ?_)); try simp only [set_none, ne_eq] at hb) | (with_reducible refine draw_same ?_) | ((with_reducible refine gd_split ?_ (fun _ => ?_) (fun _ => ?_)); exact rfl) | ((with_reducible refine td_split ?_ (fun _ => ?_) (fun _ => ?_)); exact rfl) | (with_reducible refine c_split (fun _ => ?_) (fun _ => ?_)))
  all_goals (try simp only [beq_iff_eq, beq_eq_false_iff_ne, bne_iff_ne, bne_eq_false_iff_eq, decide_eq_true_eq, decide_eq_false_iff_not, ne_eq, Bool.not_eq_true, Bool.not_eq_false, Bool.not_eq_eq_eq_not, Bool.not_true, Bool.not_false, Int.not_lt, Int.not_le, ge_iff_le, gt_iff_lt] at *)
  all_goals (refine ret_own h ((AHeap.le.refl H).fresh ‹H _ = none› _) (by exact hb.2) ?_ ?_ ?_ ?_ ?_ ?_)
  all_goals (try simp only [maxLen])
  all_goals ((try simp only [nextL]); grind [ints])
end Go.Proofs.YtodhkodhndbpmaaGreat
namespace Go.Proofs.YtodhkodhndbpmaaGreat
set_option linter.all false
open Go Go.RowKit
def nextAt (qs : List Qd) (i : Nat) : List Int := ((qs[i]?).map (nextL · i)).getD []
theorem nextAt_eq {qs : List Qd} {i : Nat} (h : i < qs.length) : nextAt qs i = nextL qs[i] i := by simp [nextAt, h]
theorem next_in {qs : List Qd} (hv : codeValid qs = true) {i : Nat} (hi : i < qs.length) {x : Int} (hx : x ∈ nextL qs[i] i) : 0 ≤ x ∧ x < qs.length := by
  have hc := code_at hv
  have hq := hc.2.2 i hi
  have hl : i + 1 < qs.length ∨ (qs[i].op = 10 ∨ qs[i].op = 4) := by
    by_cases h1 : i + 1 < qs.length
    · exact .inl h1
    · right
      simp only [codeValid, Bool.and_eq_true, Bool.or_eq_true, beq_iff_eq] at hv
      have := hv.2
      rw [show qs.length - 1 = i by omega, opAt_eq hi] at this
      exact this
  simp only [nextL] at hx
  split at hx
  · cases hx
  · split at hx
    · rename_i h4
      simp only [List.mem_cons, List.not_mem_nil, or_false] at hx
      subst hx
      simp only [quadValid, h4] at hq
      simp at hq
      omega
    · have h5 : qs[i].op = 5 → 0 ≤ qs[i].n ∧ qs[i].n < qs.length := by
        intro h5
        simp only [quadValid, h5] at hq
        simp at hq
        omega
      have hl' : i + 1 < qs.length := by omega
      split at hx
      · rename_i h
        simp only [List.mem_cons, List.not_mem_nil, or_false] at hx
        have := h5 h.1
        rcases hx with rfl | rfl <;> omega
      · split at hx
        · rename_i h
          simp only [List.mem_cons, List.not_mem_nil, or_false] at hx
          have := h5 h.1
          rcases hx with rfl | rfl <;> omega
        · simp only [List.mem_cons, List.not_mem_nil, or_false] at hx
          omega
theorem valid_more {q : Qd} {m m' : Int} (h : quadValid q m = true) (hm : m ≤ m') : quadValid q m' = true := by
  simp only [quadValid] at h ⊢
  repeat' split at h
  all_goals first
    | (cases h; done)
    | (simp_all; done)
    | (simp_all; omega)
end Go.Proofs.YtodhkodhndbpmaaGreat
namespace Go.Proofs.YtodhkodhndbpmaaGreat
set_option linter.all false
structure Fw (V : Type) where
  ok : V → Prop
  le : V → V → Prop
  join : V → V → V
  edges : Nat → V → List Nat
  tr : Nat → V → V
  ht : V → Nat
  refl : ∀ a, le a a
  trans : ∀ {a b c}, le a b → le b c → le a c
  anti : ∀ {a b}, ok a → ok b → le a b → le b a → a = b
  ok_join : ∀ {a b}, ok a → ok b → ok (join a b)
  ok_tr : ∀ {i a}, ok a → ok (tr i a)
  join_l : ∀ {a b}, ok a → ok b → le a (join a b)
  join_r : ∀ {a b}, ok a → ok b → le b (join a b)
  join_le : ∀ {a b c}, ok a → ok b → ok c → le a c → le b c → le (join a b) c
  mono_tr : ∀ {i a b}, ok a → ok b → le a b → le (tr i a) (tr i b)
  mono_ed : ∀ {i j a b}, ok a → ok b → le a b → j ∈ edges i a → j ∈ edges i b
  ht_lt : ∀ {a b}, ok a → ok b → join a b ≠ a → ht (join a b) < ht a
namespace Fw
variable {V : Type} (F : Fw V)
def Under (s c : List V) : Prop := ∀ (i : Nat) (v u : V), s[i]? = some v → c[i]? = some u → F.le v u
def Sats (s : List V) (i : Nat) (v : V) : Prop := ∀ j, j ∈ F.edges i v → ∀ u, s[j]? = some u → F.le (F.tr i v) u
def Oks (s : List V) : Prop := ∀ (i : Nat) (v : V), s[i]? = some v → F.ok v
def Closed (s0 c : List V) : Prop := c.length = s0.length ∧ F.Oks c ∧ F.Under s0 c ∧ ∀ i v, c[i]? = some v → F.Sats c i v
def Below (s0 s : List V) : Prop := s.length = s0.length ∧ F.Oks s ∧ F.Under s0 s ∧ ∀ c, F.Closed s0 c → F.Under s c
def Sol (s0 s : List V) : Prop := F.Below s0 s ∧ ∀ i v, s[i]? = some v → F.Sats s i v
/-- v is below every solution at i. -/
def Lo (s0 : List V) (i : Nat) (v : V) : Prop := F.ok v ∧ ∀ c, F.Closed s0 c → ∀ u, c[i]? = some u → F.le v u
def pot (s : List V) : Nat := (s.map F.ht).sum
variable {F} {s0 s c w : List V}
theorem Sol.closed (h : F.Sol s0 s) : F.Closed s0 s := ⟨h.1.1, h.1.2.1, h.1.2.2.1, h.2⟩
theorem Sol.unique {s s' : List V} (h : F.Sol s0 s) (h' : F.Sol s0 s') : s = s' := by
  apply List.ext_getElem?
  intro i
  have hl : s.length = s'.length := h.1.1.trans h'.1.1.symm
  by_cases hi : i < s.length
  · have hi' : i < s'.length := by omega
    rw [List.getElem?_eq_getElem hi, List.getElem?_eq_getElem hi']
    congr 1
    exact F.anti (h.1.2.1 i _ (List.getElem?_eq_getElem hi)) (h'.1.2.1 i _ (List.getElem?_eq_getElem hi'))
      (h.1.2.2.2 _ h'.closed i _ _ (List.getElem?_eq_getElem hi) (List.getElem?_eq_getElem hi'))
      (h'.1.2.2.2 _ h.closed i _ _ (List.getElem?_eq_getElem hi') (List.getElem?_eq_getElem hi))
  · rw [List.getElem?_eq_none (by omega), List.getElem?_eq_none (by omega)]
theorem Below.init (h : F.Oks s0) : F.Below s0 s0 := ⟨rfl, h, fun i v u h1 h2 => by rw [h1] at h2; obtain rfl := Option.some.inj h2; exact F.refl _, fun c hc => hc.2.2.1⟩
theorem Below.lo (h : F.Below s0 s) {i : Nat} {v : V} (hv : s[i]? = some v) : F.Lo s0 i v := ⟨h.2.1 i v hv, fun c hc u hu => h.2.2.2 c hc i v u hv hu⟩
theorem set_get {i j : Nat} {u x : V} (hu : s[j]? = some u) : (s.set j x)[i]? = if i = j then some x else s[i]? := by
  have hj := (List.getElem?_eq_some_iff.1 hu).1
  rw [List.getElem?_set]
  by_cases h : j = i
  · subst h; rw [if_pos rfl, if_pos hj, if_pos rfl]
  · rw [if_neg h, if_neg (fun e => h e.symm)]
theorem Below.step (h : F.Below s0 s) {i j : Nat} {v u : V} (hv : F.Lo s0 i v) (hj : j ∈ F.edges i v) (hu : s[j]? = some u) (hi : i < s0.length) : F.Below s0 (s.set j (F.join u (F.tr i v))) := by
  have ou := h.2.1 j u hu
  have ot := F.ok_tr (i := i) hv.1
  refine ⟨by rw [List.length_set]; exact h.1, fun i' v' h' => ?_, fun i' a b ha hb => ?_, fun c hc i' a b ha hb => ?_⟩
  · rw [set_get hu] at h'
    split at h'
    · obtain rfl := Option.some.inj h'; exact F.ok_join ou ot
    · exact h.2.1 _ _ h'
  · rw [set_get hu] at hb
    split at hb
    · rename_i e; subst e
      obtain rfl := Option.some.inj hb
      exact F.trans (h.2.2.1 _ _ _ ha hu) (F.join_l ou ot)
    · exact h.2.2.1 _ _ _ ha hb
  · rw [set_get hu] at ha
    split at ha
    · rename_i e; subst e
      obtain rfl := Option.some.inj ha
      have hlt : i < c.length := by rw [hc.1]; exact hi
      have hci := List.getElem?_eq_getElem hlt
      have l1 := hv.2 c hc _ hci
      have oc := hc.2.1 _ _ hci
      exact F.join_le ou ot (hc.2.1 _ _ hb) (h.2.2.2 c hc _ _ _ hu hb) (F.trans (F.mono_tr hv.1 oc l1) (hc.2.2.2 _ _ hci _ (F.mono_ed hv.1 oc l1 hj) _ hb))
    · exact h.2.2.2 c hc _ _ _ ha hb
theorem pot_set : ∀ {s : List V} {j : Nat} {u x : V}, s[j]? = some u → F.pot (s.set j x) + F.ht u = F.pot s + F.ht x
  | [], j, _, _, h => by simp at h
  | a :: s, 0, u, x, h => by
    simp only [List.getElem?_cons_zero, Option.some.injEq] at h
    subst h
    simp only [pot, List.set_cons_zero, List.map_cons, List.sum_cons]; omega
  | a :: s, j + 1, u, x, h => by
    simp only [List.getElem?_cons_succ] at h
    have := pot_set (s := s) (j := j) (x := x) h
    simp only [pot, List.set_cons_succ, List.map_cons, List.sum_cons] at this ⊢; omega
theorem pot_le {M : Nat} : ∀ {s : List V}, (∀ (i : Nat) (v : V), s[i]? = some v → F.ht v ≤ M) → F.pot s ≤ s.length * M
  | [], _ => by simp [pot]
  | a :: s, h => by
    have h0 := h 0 a rfl
    have := pot_le (s := s) (M := M) fun i v hv => h (i + 1) v hv
    simp only [pot, List.map_cons, List.sum_cons, List.length_cons, Nat.add_mul] at this ⊢
    omega
theorem pot_lt {j : Nat} {u x : V} (h : s[j]? = some u) (hx : F.ht x < F.ht u) : F.pot (s.set j x) < F.pot s := by
  have := pot_set (F := F) (x := x) h
  omega
variable (F)
def Wk (s : List V) (w : List Nat) : Prop := ∀ i v, s[i]? = some v → i ∈ w ∨ F.Sats s i v
def Mid (s : List V) (w : List Nat) (x : Nat) (v : V) (k : Nat) : Prop :=
  (∀ i u, i ≠ x → s[i]? = some u → i ∈ w ∨ F.Sats s i u) ∧ (s[x]? = some v ∨ x ∈ w) ∧ ∀ j, j ∈ (F.edges x v).take k → ∀ u, s[j]? = some u → F.le (F.tr x v) u
variable {F}
theorem Wk.pop {w : List Nat} {x : Nat} {v : V} (h : F.Wk s (w ++ [x])) (hv : s[x]? = some v) : F.Mid s w x v 0 :=
  ⟨fun i u hi hu => (h i u hu).imp (fun hm => by simpa [hi] using hm) id, .inl hv, fun j hj => by simp at hj⟩
theorem Mid.done {w : List Nat} {x : Nat} {v : V} {k : Nat} (h : F.Mid s w x v k) (hk : (F.edges x v).length ≤ k) : F.Wk s w := fun i u hu => by
  by_cases hi : i = x
  · subst hi
    rcases h.2.1 with h1 | h1
    · rw [h1] at hu
      obtain rfl := Option.some.inj hu
      exact .inr fun j hj u' hu' => h.2.2 j (by rw [List.take_of_length_le hk]; exact hj) u' hu'
    · exact .inl h1
  · exact h.1 i u hi hu
theorem take_mem {α : Type} {l : List α} {k : Nat} {x : α} (h : l[k]? = some x) {j : α} (hj : j ∈ l.take (k + 1)) : j ∈ l.take k ∨ j = x := by
  rw [List.take_add_one, h] at hj
  simpa using hj
theorem Mid.keep {w : List Nat} {x j : Nat} {v u : V} {k : Nat} (h : F.Mid s w x v k) (hj : (F.edges x v)[k]? = some j) (hu : s[j]? = some u) (hl : F.le (F.tr x v) u) : F.Mid s w x v (k + 1) :=
  ⟨h.1, h.2.1, fun j' hj' u' hu' => by
    rcases take_mem hj hj' with hm | rfl
    · exact h.2.2 j' hm u' hu'
    · rw [hu] at hu'; obtain rfl := Option.some.inj hu'; exact hl⟩
theorem Mid.push {w : List Nat} {x j : Nat} {v u y : V} {k : Nat} (h : F.Mid s w x v k) (hj : (F.edges x v)[k]? = some j) (hu : s[j]? = some u) (hl : F.le (F.tr x v) y) (hy : F.le u y) : F.Mid (s.set j y) (w ++ [j]) x v (k + 1) := by
  have up : ∀ i a, F.Sats s i a → F.Sats (s.set j y) i a := fun i a hs j' hj' u' hu' => by
    rw [set_get hu] at hu'
    split at hu'
    · rename_i e; subst e; obtain rfl := Option.some.inj hu'; exact F.trans (hs j' hj' u hu) hy
    · exact hs j' hj' u' hu'
  refine ⟨fun i a hi ha => ?_, ?_, fun j' hj' u' hu' => ?_⟩
  · rw [set_get hu] at ha
    split at ha
    · rename_i e; exact .inl (by simp [e])
    · exact (h.1 i a hi ha).imp (fun hm => by simp [hm]) (up i a)
  · by_cases e : x = j
    · exact .inr (by simp [e])
    · rw [set_get hu, if_neg e]; exact h.2.1.imp id fun hm => by simp [hm]
  · rw [set_get hu] at hu'
    split at hu'
    · obtain rfl := Option.some.inj hu'; exact hl
    · rename_i e
      rcases take_mem hj hj' with hm | rfl
      · exact h.2.2 j' hm u' hu'
      · exact absurd rfl e
theorem Sol.of_wk (h : F.Below s0 s) (hw : F.Wk s []) : F.Sol s0 s := ⟨h, fun i v hv => (hw i v hv).resolve_left (by simp)⟩
variable (F)
def Rd (s0 st s : List V) (k : Nat) (b : Bool) : Prop := F.Below s0 s ∧ (b = false → s = st ∧ ∀ i v, i < k → s[i]? = some v → F.Sats s i v) ∧ (b = true → F.pot s < F.pot st)
def RdM (s0 st s : List V) (i : Nat) (v : V) (e : Nat) (b : Bool) : Prop := F.Below s0 s ∧ F.Lo s0 i v ∧ i < s0.length ∧
  (b = false → s = st ∧ st[i]? = some v ∧ (∀ i' v, i' < i → s[i']? = some v → F.Sats s i' v) ∧ ∀ j, j ∈ (F.edges i v).take e → ∀ u, s[j]? = some u → F.le (F.tr i v) u) ∧ (b = true → F.pot s < F.pot st)
variable {F} {st : List V} {b : Bool}
theorem Rd.start (h : F.Below s0 s) : F.Rd s0 s s 0 false := ⟨h, fun _ => ⟨rfl, fun i v hi => absurd hi (Nat.not_lt_zero _)⟩, fun h => by cases h⟩
theorem Rd.enter {k : Nat} {v : V} (h : F.Rd s0 st s k b) (hv : s[k]? = some v) : F.RdM s0 st s k v 0 b :=
  ⟨h.1, h.1.lo hv, by rw [← h.1.1]; exact (List.getElem?_eq_some_iff.1 hv).1, fun hb => ⟨(h.2.1 hb).1, by rw [← (h.2.1 hb).1]; exact hv, fun i u hi hu => (h.2.1 hb).2 i u hi hu, fun j hj => by simp at hj⟩, h.2.2⟩
theorem Rd.skip {k : Nat} {v : V} (h : F.Rd s0 st s k b) (hv : s[k]? = some v) (he : F.edges k v = []) : F.Rd s0 st s (k + 1) b :=
  ⟨h.1, fun hb => ⟨(h.2.1 hb).1, fun i u hi hu => by
    rcases Nat.lt_succ_iff_lt_or_eq.1 hi with hi | rfl
    · exact (h.2.1 hb).2 i u hi hu
    · rw [hv] at hu; obtain rfl := Option.some.inj hu; intro j hj; rw [he] at hj; cases hj⟩, h.2.2⟩
theorem RdM.exit {i e : Nat} {v : V} (h : F.RdM s0 st s i v e b) (he : (F.edges i v).length ≤ e) : F.Rd s0 st s (i + 1) b :=
  ⟨h.1, fun hb => ⟨(h.2.2.2.1 hb).1, fun i' u hi hu => by
    obtain ⟨e1, e2, e3, e4⟩ := h.2.2.2.1 hb
    rcases Nat.lt_succ_iff_lt_or_eq.1 hi with hi | rfl
    · exact e3 i' u hi hu
    · rw [e1, e2] at hu
      obtain rfl := Option.some.inj hu
      intro j hj u' hu'
      exact e4 j (by rw [List.take_of_length_le he]; exact hj) u' hu'⟩, h.2.2.2.2⟩
theorem RdM.keep {i e j : Nat} {v u : V} (h : F.RdM s0 st s i v e b) (hj : (F.edges i v)[e]? = some j) (hu : s[j]? = some u) (hl : F.le (F.tr i v) u) : F.RdM s0 st s i v (e + 1) b :=
  ⟨h.1, h.2.1, h.2.2.1, fun hb => by
    obtain ⟨e1, e2, e3, e4⟩ := h.2.2.2.1 hb
    refine ⟨e1, e2, e3, fun j' hj' u' hu' => ?_⟩
    rcases take_mem hj hj' with hm | rfl
    · exact e4 j' hm u' hu'
    · rw [hu] at hu'; obtain rfl := Option.some.inj hu'; exact hl, h.2.2.2.2⟩
theorem RdM.push {i e j : Nat} {v u : V} (h : F.RdM s0 st s i v e b) (hj : (F.edges i v)[e]? = some j) (hu : s[j]? = some u) (hne : F.join u (F.tr i v) ≠ u) : F.RdM s0 st (s.set j (F.join u (F.tr i v))) i v (e + 1) true := by
  have ou := h.1.2.1 j u hu
  have ot := F.ok_tr (i := i) h.2.1.1
  refine ⟨h.1.step h.2.1 (List.mem_of_getElem? hj) hu h.2.2.1, h.2.1, h.2.2.1, (fun hb => by cases hb), fun _ => ?_⟩
  have := pot_lt (F := F) hu (F.ht_lt ou ot hne)
  cases b with
  | false => rw [(h.2.2.2.1 rfl).1] at this ⊢; exact this
  | true => have := h.2.2.2.2 rfl; omega
theorem Rd.sol (h : F.Rd s0 st s s0.length false) : F.Sol s0 s := ⟨h.1, fun i v hv => (h.2.1 rfl).2 i v (by rw [← h.1.1]; exact (List.getElem?_eq_some_iff.1 hv).1) hv⟩
theorem le_of_join {a b : V} (ha : F.ok a) (hb : F.ok b) (h : F.join a b = a) : F.le b a := by
  have := F.join_r ha hb
  rwa [h] at this
open Classical in
noncomputable def sol (F : Fw V) (s0 : List V) : List V := if h : ∃ s, F.Sol s0 s then Classical.choose h else s0
theorem Sol.eq (h : F.Sol s0 s) : F.sol s0 = s := by
  have hex : ∃ s, F.Sol s0 s := ⟨s, h⟩
  unfold sol
  rw [dif_pos hex]
  exact (Classical.choose_spec hex).unique h
end Fw
end Go.Proofs.YtodhkodhndbpmaaGreat
namespace Go.Proofs.YtodhkodhndbpmaaGreat
set_option linter.all false
open Go Go.RowKit
inductive Reach (qs : List Qd) : Nat → Prop
  | zero : Reach qs 0
  | next {i j : Nat} (h : Reach qs i) (hj : (j : Int) ∈ nextAt qs i) : Reach qs j
open Classical in
noncomputable def reachL (qs : List Qd) : List Bool := (List.range qs.length).map fun i => decide (Reach qs i)
open Classical in
/-- Marks that hold 0, are reachable, and are closed, are the reachable ones. -/
theorem reach_eq {qs : List Qd} {s : List Bool} (hl : s.length = qs.length) (h0 : s[0]? = some true) (hr : ∀ i, s[i]? = some true → Reach qs i) (hc : ∀ i, s[i]? = some true → ∀ j : Nat, (j : Int) ∈ nextAt qs i → j < qs.length → s[j]? = some true) (hin : ∀ i j : Nat, Reach qs i → (j : Int) ∈ nextAt qs i → j < qs.length) : s = reachL qs := by
  have key : ∀ i, Reach qs i → s[i]? = some true := by
    intro i h
    induction h with
    | zero => exact h0
    | next h hj ih => exact hc _ ih _ hj (hin _ _ h hj)
  apply List.ext_getElem?
  intro i
  by_cases hi : i < qs.length
  · have hs : s[i]? = some s[i] := List.getElem?_eq_getElem (by omega)
    have e : (reachL qs)[i]? = some (decide (Reach qs i)) := by simp [reachL, hi]
    rw [hs, e]
    congr 1
    by_cases hR : Reach qs i
    · have := key i hR
      rw [hs] at this
      rw [Option.some.inj this]; simp [hR]
    · have : s[i] = false := by
        cases hb : s[i] with
        | false => rfl
        | true => exact absurd (hr i (by rw [hs, hb])) hR
      rw [this]; simp [hR]
  · rw [List.getElem?_eq_none (by omega), List.getElem?_eq_none (by simp [reachL]; omega)]
def jn (qs : List Qd) (i : Nat) : List Nat := (nextAt qs i).map Int.toNat
def reachF (qs : List Qd) : Fw Bool where
  ok _ := True
  le a b := a = true → b = true
  join a b := a || b
  edges i a := if a then jn qs i else []
  tr _ a := a
  ht a := if a then 0 else 1
  refl _ h := h
  trans h h' x := h' (h x)
  anti := by intro a b _ _ h h'; cases a <;> cases b <;> simp_all
  ok_join _ _ := trivial
  ok_tr _ := trivial
  join_l := by intro a b _ _ h; simp [h]
  join_r := by intro a b _ _ h; simp [h]
  join_le := by intro a b c _ _ _ h h' x; cases a <;> cases b <;> simp_all
  mono_tr := by intro _ a b _ _ h; exact h
  mono_ed := by intro i j a b _ _ h hj; cases a <;> cases b <;> simp_all
  ht_lt := by intro a b _ _ h; cases a <;> cases b <;> simp_all
def reach0 (n : Nat) : List Bool := true :: List.replicate (n - 1) false
theorem reach0_len {n : Nat} (h : 1 ≤ n) : (reach0 n).length = n := by simp [reach0]; omega
theorem repl_false (n : Nat) : repl [.bool false] n = bools (List.replicate n false) := by
  induction n with
  | zero => rfl
  | succ n ih => simp only [repl, ih, bools, List.replicate_succ, List.map_cons]; rfl
theorem reach0_set {n : Nat} (h : 1 ≤ n) : (List.replicate n false).set 0 true = reach0 n := by
  obtain ⟨m, rfl⟩ : ∃ m, n = m + 1 := ⟨n - 1, by omega⟩
  simp [reach0, List.replicate_succ]
theorem jn_in {qs : List Qd} (hv : codeValid qs = true) {i j : Nat} (hi : i < qs.length) : j ∈ jn qs i ↔ (j : Int) ∈ nextAt qs i := by
  simp only [jn, List.mem_map]
  constructor
  · rintro ⟨x, hx, rfl⟩
    rw [nextAt_eq hi] at hx ⊢
    have := next_in hv hi hx
    rwa [Int.toNat_of_nonneg this.1]
  · intro h; exact ⟨j, h, by simp⟩
theorem reach_lt {qs : List Qd} (hv : codeValid qs = true) {i : Nat} (h : Reach qs i) : i < qs.length := by
  induction h with
  | zero => have := (code_at hv).1; omega
  | next h hj ih =>
    rw [nextAt_eq ih] at hj
    have := next_in hv ih hj
    omega
open Classical in
theorem reach_closed {qs : List Qd} (hv : codeValid qs = true) : (reachF qs).Closed (reach0 qs.length) (reachL qs) := by
  have hc := code_at hv
  have at_ : ∀ i v, (reachL qs)[i]? = some v → i < qs.length ∧ v = decide (Reach qs i) := by
    intro i v h
    have hi : i < qs.length := by have := (List.getElem?_eq_some_iff.1 h).1; simpa [reachL] using this
    simp [reachL, hi] at h
    exact ⟨hi, h.symm⟩
  refine ⟨by rw [reach0_len hc.1]; simp [reachL], fun _ _ _ => trivial, fun i v u hv' hu ht => ?_, fun i v hv' j hj u hu ht => ?_⟩
  · obtain ⟨hi, rfl⟩ := at_ i u hu
    subst ht
    cases i with
    | zero => simp [Reach.zero]
    | succ i => simp only [reach0, List.getElem?_cons_succ, List.getElem?_replicate] at hv'; split at hv' <;> simp at hv'
  · obtain ⟨hi, rfl⟩ := at_ i v hv'
    obtain ⟨hj', rfl⟩ := at_ j u hu
    simp only [reachF] at ht hj
    rw [if_pos ht] at hj
    simp only [decide_eq_true_eq] at ht ⊢
    exact .next ht ((jn_in hv hi).1 hj)
theorem reach_sol {qs : List Qd} (hv : codeValid qs = true) {s : List Bool} (h : (reachF qs).Sol (reach0 qs.length) s) : s = reachL qs := by
  have hc := code_at hv
  have hl : s.length = qs.length := h.1.1.trans (reach0_len hc.1)
  refine reach_eq hl ?_ (fun i hi => ?_) (fun i hi j hj hjl => ?_) (fun i j hi hj => reach_lt hv (.next hi hj))
  · have h0 : 0 < s.length := by omega
    rw [List.getElem?_eq_getElem h0]
    exact congrArg some (h.1.2.2.1 0 true _ rfl (List.getElem?_eq_getElem h0) rfl)
  · have hlt : i < qs.length := by rw [← hl]; exact (List.getElem?_eq_some_iff.1 hi).1
    have := h.1.2.2.2 _ (reach_closed hv) i true _ hi (by simp [reachL, hlt]; rfl) rfl
    simpa using this
  · have hlt : i < qs.length := by rw [← hl]; exact (List.getElem?_eq_some_iff.1 hi).1
    have hj1 : j < s.length := by omega
    rw [List.getElem?_eq_getElem hj1]
    exact congrArg some (h.2 i true hi j (by simp only [reachF, if_true]; exact (jn_in hv hlt).2 hj) _ (List.getElem?_eq_getElem hj1) rfl)
end Go.Proofs.YtodhkodhndbpmaaGreat
namespace Go.Proofs.YtodhkodhndbpmaaGreat
set_option linter.all false
open Go Go.RowKit
set_option maxRecDepth 100000
variable (w0 : World) (H : AHeap) (K : Value → AHeap → Prop)
def setsOf (q : Qd) : Int := if q.op = 1 ∨ q.op = 2 ∨ q.op = 3 ∨ q.op = 7 then q.dst else -1
def quadSets (q : Qd) : Int := if quadValid q 600 then setsOf q else -1
theorem quadSetsS_ok (q : Qd) (h : K (.int .i64 (quadSets q)) H) : ACalls Tryz.prog w0 118 [q.val] H K := by
  refine acalls_of_sx mix Tryz.func118 of118 (by simp [ir118]) ?_; rw [ir118]; (try delta qT qI qC qO qM qG)
  repeat' (first | simp -implicitDefEqProofs only [zG1,zG2,zG3,zG4,zG5,zG6,zG7,eq_self,resV,rval,X.val,binv,fillL,setR,↓reduceIte,Nat.reduceEqDiff,Nat.reduceAdd,Nat.reduceMul,Nat.reduceLeDiff,Nat.reduceLT,Nat.reduceSub,reduceCtorEq,zGr, q_val] | ((with_reducible refine rows_intro (fun _ hb => ?_)); try simp only [set_none, ne_eq] at hb) | ((with_reducible refine new_intro (fun _ hb => ?_)); try simp only [set_none, ne_eq] at hb) | (with_reducible refine draw_same ?_) | ((with_reducible refine gd_split ?_ (fun _ => ?_) (fun _ => ?_)); exact rfl) | ((with_reducible refine td_split ?_ (fun _ => ?_) (fun _ => ?_)); exact rfl) | (with_reducible refine c_split (fun _ => ?_) (fun _ => ?_)) | (with_reducible refine quadValidS_ok _ _ _ _ _ ?_))
  all_goals (refine ⟨H, (AHeap.le.refl H).fresh ‹_› _, ki h ?_⟩)
  all_goals (try simp only [beq_iff_eq, beq_eq_false_iff_ne, bne_iff_ne, bne_eq_false_iff_eq, decide_eq_true_eq, decide_eq_false_iff_not, ne_eq, Bool.not_eq_true, Bool.not_eq_false, Bool.not_eq_eq_eq_not, Bool.not_true, Bool.not_false, Int.not_lt, Int.not_le, ge_iff_le, gt_iff_lt] at *)
  all_goals (simp only [quadSets, setsOf]; grind)
end Go.Proofs.YtodhkodhndbpmaaGreat
namespace Go.Proofs.YtodhkodhndbpmaaGreat
set_option linter.all false
open Go Go.RowKit
/-- v is a slice of slices of the call's own, in blocks among bs: the rows read as L. -/
def Rs (C : AHeap) (t' t : TypeId) (sz : Nat) (v : Value) (L : List (List Value)) (bs : List Nat) : Prop :=
  ∃ (vs : List Value) (ob : List Nat) (bss : List (List Nat)), Rw C t' 1 v L.length vs ob ∧ bss.length = L.length ∧ (∀ x, x ∈ ob → x ∈ bs) ∧
    (∀ (i : Nat) (ib : List Nat), bss[i]? = some ib → (∀ x, x ∈ ib → x ∈ bs ∧ ¬ x ∈ ob) ∧ ∀ (j : Nat) (jb : List Nat), bss[j]? = some jb → i ≠ j → ∀ x, x ∈ ib → ¬ x ∈ jb) ∧
    ∀ (i : Nat) (xs : List Value), L[i]? = some xs → ∃ x ib n, vs[i]? = some x ∧ bss[i]? = some ib ∧ Rw C t sz x n xs ib
section
variable {P : Program} {w0 : World} {K : Value → AHeap → Prop} {C C' H : AHeap} {t' t : TypeId} {sz m c n cap b : Nat} {v x : Value} {L : List (List Value)} {bs bs' ib : List Nat} {A : Option Addr} {xs : List Value} {z : List Value} {bytes xc : Nat}
theorem Rs.trans (h : Rs C t' t sz v L bs) (hl : AHeap.le C C') : Rs C' t' t sz v L bs := by
  obtain ⟨vs, ob, bss, h1, h2, h3, h4, h5⟩ := h
  refine ⟨vs, ob, bss, h1.trans hl, h2, h3, h4, fun i xs hi => ?_⟩
  obtain ⟨x, ib, n, e1, e2, e3⟩ := h5 i xs hi
  exact ⟨x, ib, n, e1, e2, e3.trans hl⟩
theorem Rs.chg (h : Rs C t' t sz v L bs) (hc : Chg C C' bs') (hd : ∀ b, b ∈ bs → ¬ b ∈ bs') : Rs C' t' t sz v L bs := by
  obtain ⟨vs, ob, bss, h1, h2, h3, h4, h5⟩ := h
  refine ⟨vs, ob, bss, h1.chg hc (fun b hb => hd b (h3 b hb)), h2, h3, h4, fun i xs hi => ?_⟩
  obtain ⟨x, ib, n, e1, e2, e3⟩ := h5 i xs hi
  exact ⟨x, ib, n, e1, e2, e3.chg hc (fun b hb => hd b ((h4 i ib e2).1 b hb).1)⟩
theorem Rs.sup (h : Rs C t' t sz v L bs) (hs : ∀ b, b ∈ bs → b ∈ bs') : Rs C t' t sz v L bs' := by
  obtain ⟨vs, ob, bss, h1, h2, h3, h4, h5⟩ := h
  exact ⟨vs, ob, bss, h1, h2, fun x hx => hs x (h3 x hx), fun i ib hi => ⟨fun x hx => ⟨hs x ((h4 i ib hi).1 x hx).1, ((h4 i ib hi).1 x hx).2⟩, (h4 i ib hi).2⟩, h5⟩
/-- Only the blocks that are in use count. -/
theorem Rs.tight (h : Rs C t' t sz v L bs) : ∃ bs', (∀ b, b ∈ bs' → b ∈ bs) ∧ (∀ b, b ∈ bs' → C b ≠ none) ∧ Rs C t' t sz v L bs' := by
  classical
  obtain ⟨vs, ob, bss, h1, h2, h3, h4, h5⟩ := h
  refine ⟨bs.filter (fun b => decide (C b ≠ none)), fun b hb => (List.mem_filter.1 hb).1, fun b hb => by simpa using (List.mem_filter.1 hb).2, vs, ob, bss, h1, h2, fun x hx => List.mem_filter.2 ⟨h3 x hx, ?_⟩, fun i ib hi => ⟨fun x hx => ⟨List.mem_filter.2 ⟨((h4 i ib hi).1 x hx).1, ?_⟩, ((h4 i ib hi).1 x hx).2⟩, (h4 i ib hi).2⟩, h5⟩
  · rcases h1 with ⟨_, _, _, rfl⟩ | ⟨b, cap, _, rfl, _, _, _, hk⟩
    · cases hx
    · simp at hx; subst hx; simpa using hk.ne
  · have hlt : i < L.length := by rw [← h2]; exact (List.getElem?_eq_some_iff.1 hi).1
    obtain ⟨x', ib', n, _, e2, e3⟩ := h5 i _ (List.getElem?_eq_getElem hlt)
    rw [hi] at e2
    obtain rfl := Option.some.inj e2
    rcases e3 with ⟨_, _, _, rfl⟩ | ⟨b, cap, _, rfl, _, _, _, hk⟩
    · cases hx
    · simp at hx; subst hx; simpa using hk.ne
theorem Rs.nil_ (C : AHeap) (t' t : TypeId) (sz : Nat) : Rs C t' t sz (.slice none 0 0) [] [] :=
  ⟨[], [], [], Rw.nil_ _ _ _, rfl, fun x hx => (by cases hx), fun i ib hi => (by simp at hi), fun i xs hi => (by simp at hi)⟩
theorem Rs.empty (h : Rw C t' 1 v 0 xs bs) (t : TypeId) (sz : Nat) : Rs C t' t sz v [] bs := by
  have : xs = [] := List.eq_nil_of_length_eq_zero (by simpa using h.len)
  subst this
  exact ⟨[], bs, [], h, rfl, fun x hx => hx, fun i ib hi => (by simp at hi), fun i xs hi => (by simp at hi)⟩
theorem Rw.slice (h : Rw C t sz v n xs bs) : ∃ A c, v = .slice A n c := by obtain ⟨A, c, e, _⟩ := h.fl; exact ⟨A, c, e⟩
theorem Rs.slice (h : Rs C t' t sz v L bs) : ∃ A c, v = .slice A L.length c := by obtain ⟨vs, ob, bss, h1, _⟩ := h; exact h1.slice
theorem Rs.len (h : Rs C t' t sz (.slice A m c) L bs) : m = L.length := by obtain ⟨A', c', e⟩ := h.slice; simp only [Value.slice.injEq] at e; exact e.2.1
/-- A row, read. -/
theorem Rs.row (h : Rs C t' t sz (.slice A m c) L bs) {i : Nat} (hi : i < L.length) : A.isSome = true ∧ ∃ A' n c', C.cell (adr A i) = some (.slice A' n c') ∧ Fl C A' L[i] ∧ L[i].length = n * sz := by
  obtain ⟨vs, ob, bss, h1, h2, h3, h4, h5⟩ := h
  obtain ⟨x, ib, n, e1, e2, e3⟩ := h5 i _ (List.getElem?_eq_getElem hi)
  obtain ⟨A', c', rfl, f⟩ := e3.fl
  have hf := h1.fl'.1
  refine ⟨hf.is (i := i) ((List.getElem?_eq_some_iff.1 e1).1), A', n, c', hf i _ e1, f, e3.len⟩
/-- A row, changed in place. -/
theorem Rs.inner (h : Rs C t' t sz (.slice A m c) L bs) {i : Nat} (hi : i < L.length) : A.isSome = true ∧ ∃ x ib n, C.cell (adr A i) = some x ∧ Rw C t sz x n L[i] ib ∧ (∀ y, y ∈ ib → y ∈ bs) ∧ (∀ C', Chg C C' ib → C'.cell (adr A i) = some x) ∧
    ∀ C' xs', Chg C C' ib → Rw C' t sz x n xs' ib → Rs C' t' t sz (.slice A m c) (L.set i xs') bs := by
  obtain ⟨vs, ob, bss, h1, h2, h3, h4, h5⟩ := h
  obtain ⟨x, ib, n, e1, e2, e3⟩ := h5 i _ (List.getElem?_eq_getElem hi)
  have hf := h1.fl'.1
  refine ⟨hf.is (i := i) ((List.getElem?_eq_some_iff.1 e1).1), x, ib, n, hf i _ e1, e3, fun y hy => ((h4 i ib e2).1 y hy).1, fun C' hc => (h1.chg hc fun y hy hm => ((h4 i ib e2).1 y hm).2 hy).fl'.1 i _ e1, fun C' xs' hc hw => ⟨vs, ob, bss, ?_, by rw [List.length_set]; exact h2, h3, h4, fun j ys hj => ?_⟩⟩
  · rw [List.length_set]
    exact h1.chg hc fun y hy hm => ((h4 i ib e2).1 y hm).2 hy
  · rw [List.getElem?_set] at hj
    by_cases e : i = j
    · subst e
      rw [if_pos rfl, if_pos hi] at hj
      obtain rfl := Option.some.inj hj
      exact ⟨x, ib, n, e1, e2, hw⟩
    · rw [if_neg e] at hj
      have hne := e
      obtain ⟨x', ib', n', a1, a2, a3⟩ := h5 j ys hj
      exact ⟨x', ib', n', a1, a2, a3.chg hc ((h4 j ib' a2).2 i ib e2 (fun e => hne e.symm))⟩
/-- A row put in the place of another. -/
theorem Rs.st (h : Rs C t' t sz (.slice (some ⟨b, 0, none⟩) m cap) L bs) {i : Nat} (hi : i < L.length) (hx : Rw C t sz x n xs ib) (hd : ∀ y, y ∈ ib → ¬ y ∈ bs)
    (hK : ∀ C', Chg C C' bs → Rs C' t' t sz (.slice (some ⟨b, 0, none⟩) m cap) (L.set i xs) (bs ++ ib) → K undef C') : stK 1 (.pointer (some ⟨b, i, none⟩)) x K C := by
  obtain ⟨vs, ob, bss, h1, h2, h3, h4, h5⟩ := h
  obtain ⟨b', cap', e, rfl, hn, hc, hl, hk⟩ := h1.open_ (by omega)
  simp only [Value.slice.injEq, Option.some.injEq, Addr.mk.injEq] at e
  obtain ⟨⟨rfl, -⟩, rfl, rfl⟩ := e
  have hxc : x.cells = #[x] ∧ x.oneCell' = true := by
    obtain ⟨A, c, rfl⟩ := hx.slice
    exact ⟨vcS _ _ _, ocS _ _ _⟩
  have hvl : vs.length = L.length := by rw [hl, Nat.mul_one]
  refine st_kn hk rfl (by rw [hxc.1]; rfl) (by simp only; omega) (by rw [hxc.1]; simpa using hxc.2) (fun C' hc' ho' k' => hK C' (hc'.mono (by simpa using h3 b (by simp))) ?_)
  rw [hxc.1] at k'
  have hbb : ¬ b ∈ ib := fun hm => hd b hm (h3 b (by simp))
  refine ⟨vs.set i x, [b], bss.set i ib, ?_, by rw [List.length_set, List.length_set]; exact h2, fun y hy => List.mem_append_left _ (h3 y hy), fun j jb hj => ?_, fun j ys hj => ?_⟩
  · rw [List.length_set]; exact .inr ⟨b, cap, rfl, rfl, hn, hc, by rw [List.length_set]; exact hl, k'⟩
  · have old : ∀ j jb, bss[j]? = some jb → ∀ y, y ∈ jb → y ∈ bs := fun j jb hj y hy => ((h4 j jb hj).1 y hy).1
    rw [List.getElem?_set] at hj
    by_cases e : i = j
    · subst e
      rw [if_pos rfl, if_pos (by omega)] at hj
      obtain rfl := Option.some.inj hj
      refine ⟨fun y hy => ⟨List.mem_append_right _ hy, fun e => hbb (by simp at e; exact e ▸ hy)⟩, fun j' jb' hj' hne y hy hm => ?_⟩
      rw [List.getElem?_set, if_neg hne] at hj'
      exact hd y hy (old j' jb' hj' y hm)
    · rw [if_neg e] at hj
      refine ⟨fun y hy => ⟨List.mem_append_left _ ((h4 j jb hj).1 y hy).1, ((h4 j jb hj).1 y hy).2⟩, fun j' jb' hj' hne' y hy hm => ?_⟩
      rw [List.getElem?_set] at hj'
      by_cases e' : i = j'
      · subst e'
        rw [if_pos rfl, if_pos (by omega)] at hj'
        obtain rfl := Option.some.inj hj'
        exact hd y hm (old j jb hj y hy)
      · rw [if_neg e'] at hj'
        exact (h4 j jb hj).2 j' jb' hj' hne' y hy hm
  · rw [List.getElem?_set] at hj
    rw [List.getElem?_set, List.getElem?_set]
    split
    · rename_i e; subst e
      rw [if_pos rfl, if_pos hi] at hj
      obtain rfl := Option.some.inj hj
      rw [if_pos (by omega), if_pos (by omega)]
      exact ⟨x, ib, n, rfl, rfl, hx.chg hc' fun y hy e => hbb (by simp at e; exact e ▸ hy)⟩
    · rename_i hne
      rw [if_neg hne] at hj
      obtain ⟨x', ib', n', a1, a2, a3⟩ := h5 j ys hj
      exact ⟨x', ib', n', a1, a2, a3.chg hc' (((h4 j ib' a2).1 · · |>.2))⟩
/-- One more row. -/
theorem Rs.app (h : Rs C t' t sz v L bs) (hx : Rw C t sz x n xs ib) (hd : ∀ y, y ∈ ib → ¬ y ∈ bs) (hz : z.length = 1) {xa : Option Addr} (hr : Fl C xa [x]) (hm : L.length + 1 ≤ maxLen) (hB : (L.length + 1) * bytes ≤ 140737488355328)
    (hK : ∀ v' C' bs', Chg C C' bs → (∀ y, y ∈ bs' → y ∈ bs ∨ y ∈ ib ∨ C y = none) → Rs C' t' t sz v' (L ++ [xs]) bs' → K v' C') : appK P w0 z t' bytes v (.slice xa 1 xc) K C := by
  obtain ⟨vs, ob, bss, h1, h2, h3, h4, h5⟩ := h
  have hvl : vs.length = L.length := by have := h1.len; rw [this, Nat.mul_one]
  have h1' : Rw C t' z.length v L.length vs ob := by rw [hz]; exact h1
  have hxo : x.oneCell' = true := by
    obtain ⟨A, c, rfl⟩ := hx.slice
    exact ocS _ _ _
  refine app_rw h1' (news := [x]) hr (by rw [hz]; rfl) (by simpa using hxo) hm hB (fun v' C' ob' hc' hn' w' => ?_)
  rw [hz] at w'
  have hdi : ∀ y, y ∈ ib → ¬ y ∈ ob' := fun y hy hm => by
    rcases hn' y hm with ho | ho
    · exact hd y hy (h3 y ho)
    · rcases hx with ⟨_, _, _, rfl⟩ | ⟨b, cap, _, rfl, _, _, _, hk⟩
      · cases hy
      · simp at hy; subst hy; exact hk.ne ho
  have hold : ∀ j jb, bss[j]? = some jb → ∀ y, y ∈ jb → ¬ y ∈ ob' := fun j jb hj y hy hm => by
    rcases hn' y hm with ho | ho
    · exact ((h4 j jb hj).1 y hy).2 ho
    · have hjl : j < L.length := by rw [← h2]; exact (List.getElem?_eq_some_iff.1 hj).1
      obtain ⟨x', ib', n', a1, a2, a3⟩ := h5 j _ (List.getElem?_eq_getElem hjl)
      rw [hj] at a2
      obtain rfl := Option.some.inj a2
      rcases a3 with ⟨_, _, _, rfl⟩ | ⟨b, cap, _, rfl, _, _, _, hk⟩
      · cases hy
      · simp at hy; subst hy; exact hk.ne ho
  refine hK v' C' (ob' ++ (bs ++ ib).filter (fun y => !decide (y ∈ ob) || decide (y ∈ ob'))) (hc'.mono h3) (fun y hy => ?_) ⟨vs ++ [x], ob', bss ++ [ib], ?_, by simp [h2], fun y hy => List.mem_append_left _ hy, fun j jb hj => ?_, fun j ys hj => ?_⟩
  · rcases List.mem_append.1 hy with hy | hy
    · rcases hn' y hy with ho | ho
      · exact .inl (h3 y ho)
      · exact .inr (.inr ho)
    · rcases List.mem_append.1 (List.mem_filter.1 hy).1 with hy | hy
      · exact .inl hy
      · exact .inr (.inl hy)
  · rw [List.length_append]; exact w'
  · have inn : ∀ y, y ∈ bs ∨ y ∈ ib → ¬ y ∈ ob → y ∈ ob' ++ (bs ++ ib).filter (fun y => !decide (y ∈ ob) || decide (y ∈ ob')) := fun y hy hno =>
      List.mem_append_right _ (List.mem_filter.2 ⟨List.mem_append.2 hy, by simp [hno]⟩)
    rcases Nat.lt_or_ge j bss.length with hjl | hjl
    · rw [List.getElem?_append_left hjl] at hj
      refine ⟨fun y hy => ⟨inn y (.inl ((h4 j jb hj).1 y hy).1) ((h4 j jb hj).1 y hy).2, hold j jb hj y hy⟩, fun j' jb' hj' hne y hy hm => ?_⟩
      rcases Nat.lt_or_ge j' bss.length with hjl' | hjl'
      · rw [List.getElem?_append_left hjl'] at hj'
        exact (h4 j jb hj).2 j' jb' hj' hne y hy hm
      · rw [List.getElem?_append_right hjl'] at hj'
        have : j' - bss.length = 0 := by
          rcases Nat.eq_zero_or_pos (j' - bss.length) with h0 | h0
          · exact h0
          · rw [List.getElem?_eq_none (by simp; omega)] at hj'; cases hj'
        rw [this] at hj'
        obtain rfl := Option.some.inj hj'
        exact hd y hm ((h4 j jb hj).1 y hy).1
    · rw [List.getElem?_append_right hjl] at hj
      have hj0 : j - bss.length = 0 := by
        rcases Nat.eq_zero_or_pos (j - bss.length) with h0 | h0
        · exact h0
        · rw [List.getElem?_eq_none (by simp; omega)] at hj; cases hj
      rw [hj0] at hj
      obtain rfl := Option.some.inj hj
      refine ⟨fun y hy => ⟨inn y (.inr hy) (fun ho => hd y hy (h3 y ho)), hdi y hy⟩, fun j' jb' hj' hne y hy hm => ?_⟩
      rcases Nat.lt_or_ge j' bss.length with hjl' | hjl'
      · rw [List.getElem?_append_left hjl'] at hj'
        exact hd y hy ((h4 j' jb' hj').1 y hm).1
      · rw [List.getElem?_append_right hjl'] at hj'
        have : j' - bss.length = 0 := by
          rcases Nat.eq_zero_or_pos (j' - bss.length) with h0 | h0
          · exact h0
          · rw [List.getElem?_eq_none (by simp; omega)] at hj'; cases hj'
        exact hne (by omega)
  · rcases Nat.lt_or_ge j L.length with hjl | hjl
    · rw [List.getElem?_append_left hjl] at hj
      obtain ⟨x', ib', n', a1, a2, a3⟩ := h5 j ys hj
      exact ⟨x', ib', n', by rw [List.getElem?_append_left (by omega)]; exact a1, by rw [List.getElem?_append_left (by omega)]; exact a2, a3.chg hc' fun y hy => ((h4 j ib' a2).1 y hy).2⟩
    · rw [List.getElem?_append_right hjl] at hj
      have hj0 : j - L.length = 0 := by
        rcases Nat.eq_zero_or_pos (j - L.length) with h0 | h0
        · exact h0
        · rw [List.getElem?_eq_none (by simp; omega)] at hj; cases hj
      rw [hj0] at hj
      obtain rfl := Option.some.inj hj
      refine ⟨x, ib, n, by rw [List.getElem?_append_right (by omega), show j - vs.length = 0 by omega]; rfl, by rw [List.getElem?_append_right (by omega), show j - bss.length = 0 by omega]; rfl, hx.chg hc' fun y hy ho => hd y hy (h3 y ho)⟩
end
end Go.Proofs.YtodhkodhndbpmaaGreat
namespace Go.Proofs.YtodhkodhndbpmaaGreat
set_option linter.all false
open Go Go.RowKit
/-- How many elements there are in all. -/
def tot (sz : Nat) (L : List (List Value)) : Nat := (L.map fun x => x.length / sz).sum
/-- A fact: its kind and its number. -/
structure Fc where
  kind : Int
  n : Int
  deriving DecidableEq
abbrev Fc.cells (f : Fc) : List Value := [.int .i64 f.kind, .int .i64 f.n]
abbrev Fc.val (f : Fc) : Value := .agg #[.int .i64 f.kind, .int .i64 f.n]
def fcells (fs : List Fc) : List Value := fs.flatMap (·.cells)
theorem fcells_len (fs : List Fc) : (fcells fs).length = fs.length * 2 := by
  induction fs with
  | nil => rfl
  | cons f fs ih => simp only [fcells, List.flatMap_cons, List.length_append, List.length_cons, List.length_nil] at *; omega
/-- M is L, its rows marked one behind the other from k on. -/
def Marked (sz : Nat) (mk : Int → Nat → List Value) (k w : Int) (L M : List (List Value)) : Prop :=
  M.length = L.length ∧ ∀ i (hi : i < L.length) n, L[i].length = n * sz → M[i]? = some (mk (k + w * (tot sz (L.take i) : Int)) n)
def Midd (sz : Nat) (mk : Int → Nat → List Value) (k w : Int) (L M : List (List Value)) (j : Nat) : Prop :=
  M.length = L.length ∧ (∀ i (hi : i < L.length), i < j → ∀ n, L[i].length = n * sz → M[i]? = some (mk (k + w * (tot sz (L.take i) : Int)) n)) ∧ ∀ i, j ≤ i → M[i]? = L[i]?
section
variable {sz : Nat} {mk : Int → Nat → List Value} {k w : Int} {L M : List (List Value)} {j n : Nat}
theorem Midd.start : Midd sz mk k w L L 0 := ⟨rfl, fun i _ hi => absurd hi (Nat.not_lt_zero _), fun _ _ => rfl⟩
theorem Midd.at_ (h : Midd sz mk k w L M j) (hj : j < L.length) : M[j]'(by rw [h.1]; exact hj) = L[j] := by
  have := h.2.2 j (Nat.le_refl _)
  rw [List.getElem?_eq_getElem hj, List.getElem?_eq_getElem (by rw [h.1]; exact hj)] at this
  exact Option.some.inj this
theorem Midd.step (h : Midd sz mk k w L M j) (hj : j < L.length) (hn : L[j].length = n * sz) (hs : 0 < sz := by decide) : Midd sz mk k w L (M.set j (mk (k + w * (tot sz (L.take j) : Int)) n)) (j + 1) := by
  refine ⟨by rw [List.length_set]; exact h.1, fun i hi hij n' hn' => ?_, fun i hij => ?_⟩
  · rw [List.getElem?_set]
    by_cases e : j = i
    · subst e
      rw [if_pos rfl, if_pos (by rw [h.1]; exact hj)]
      rw [hn] at hn'
      obtain rfl := Nat.eq_of_mul_eq_mul_right hs hn'
      rfl
    · rw [if_neg e]; exact h.2.1 i hi (by omega) n' hn'
  · rw [List.getElem?_set, if_neg (by omega)]; exact h.2.2 i (by omega)
theorem Marked.at_ (h : Marked sz mk k w L M) {i : Nat} (hi : i < L.length) (hn : L[i].length = n * sz) : M[i]'(by rw [h.1]; exact hi) = mk (k + w * (tot sz (L.take i) : Int)) n := by
  have := h.2 i hi n hn
  rw [List.getElem?_eq_getElem (by rw [h.1]; exact hi)] at this
  exact Option.some.inj this
theorem Midd.done (h : Midd sz mk k w L M L.length) : Marked sz mk k w L M := ⟨h.1, fun i hi n hn => h.2.1 i hi hi n hn⟩
end
end Go.Proofs.YtodhkodhndbpmaaGreat
namespace Go.Proofs.YtodhkodhndbpmaaGreat
set_option linter.all false
open Go Go.RowKit
set_option maxRecDepth 100000
variable (w0 : World) (H : AHeap) (K : Value → AHeap → Prop)
def wordI (a : Int) : Prop := -2147483648 ≤ a ∧ a ≤ 2147483647
theorem wordI_iff (a : Int) : wordValid a = true ↔ wordI a := by simp [wordValid, wordI]
theorem ofI32 {a : Int} (h : wordI a) : BitVec.ofInt 64 a = (BitVec.ofInt 32 a).signExtend 64 := by
  apply BitVec.eq_of_toInt_eq
  rw [BitVec.toInt_signExtend_of_le (by decide), BitVec.toInt_ofInt, BitVec.toInt_ofInt]
  obtain ⟨h1, h2⟩ := h
  simp only [Int.bmod]
  omega
theorem wrap64_toInt (x : BitVec 64) : IntKind.i64.wrap (x.toNat : Int) = x.toInt := by
  rw [IntKind.wrap_i64, BitVec.toInt_eq_toNat_bmod, Int.bmod]
  have := x.isLt
  omega
theorem word_sx (y : BitVec 32) : wordI (y.signExtend 64).toInt := by
  rw [BitVec.toInt_signExtend_of_le (by decide)]
  have h1 := BitVec.le_toInt y
  have h2 := BitVec.toInt_lt (x := y)
  simp at h1 h2
  exact ⟨by omega, by omega⟩
theorem word_bits {op : BinOp} (ho : op = .or ∨ op = .xor ∨ op = .and) {a b : Int} (ha : wordI a) (hb : wordI b) : wordI (bits op .i64 a b) := by
  rcases ho with rfl | rfl | rfl
  · show wordI (IntKind.i64.wrap ((BitVec.ofInt 64 a ||| BitVec.ofInt 64 b).toNat : Int))
    rw [ofI32 ha, ofI32 hb, ← BitVec.signExtend_or, wrap64_toInt]; exact word_sx _
  · show wordI (IntKind.i64.wrap ((BitVec.ofInt 64 a ^^^ BitVec.ofInt 64 b).toNat : Int))
    rw [ofI32 ha, ofI32 hb, ← BitVec.signExtend_xor, wrap64_toInt]; exact word_sx _
  · show wordI (IntKind.i64.wrap ((BitVec.ofInt 64 a &&& BitVec.ofInt 64 b).toNat : Int))
    rw [ofI32 ha, ofI32 hb, ← BitVec.signExtend_and, wrap64_toInt]; exact word_sx _
def w32 (n : Int) : Int := IntKind.i32.wrap n
theorem w32_word (n : Int) : wordI (w32 n) := by
  unfold w32 wordI
  rw [IntKind.wrap_i32]; omega
def sh31 (b : Int) : Int := bits .and .i64 b 31
theorem sh31_in (b : Int) : 0 ≤ sh31 b ∧ sh31 b < 32 := by
  show 0 ≤ IntKind.i64.wrap ((BitVec.ofInt 64 b &&& BitVec.ofInt 64 31).toNat : Int) ∧ IntKind.i64.wrap ((BitVec.ofInt 64 b &&& BitVec.ofInt 64 31).toNat : Int) < 32
  have h : (BitVec.ofInt 64 b &&& BitVec.ofInt 64 31).toNat < 32 := by
    rw [BitVec.toNat_and]
    have : (BitVec.ofInt 64 31).toNat = 31 := by decide
    rw [this]
    exact Nat.lt_of_le_of_lt Nat.and_le_right (by decide)
  rw [IntKind.wrap_i64]; omega
/-- The result of an operator for two words. -/
def applyN (op a b : Int) : Int :=
  if op = 1 then bits .or .i64 a b
  else if op = 2 then bits .xor .i64 a b
  else if op = 3 then bits .and .i64 a b
  else if op = 4 then (if a = b then 1 else 0)
  else if op = 5 then (if a < b then 1 else 0)
  else if op = 6 then w32 (IntKind.i64.wrap (a * 2 ^ (Nat.min (sh31 b).toNat 64)))
  else if op = 7 then a.fdiv (2 ^ (Nat.min (sh31 b).toNat 64))
  else if op = 8 then w32 (IntKind.i64.wrap (a + b))
  else if op = 9 then w32 (IntKind.i64.wrap (a - b))
  else if op = 10 then w32 (IntKind.i64.wrap (a * b))
  else if op = 11 then (if b = 0 then -1 else w32 (IntKind.i64.wrap (a.tdiv b)))
  else (if b = 0 then a else a.tmod b)
theorem tmod_word {a b : Int} (ha : wordI a) : wordI (a.tmod b) := by
  obtain ⟨h1, h2⟩ := ha
  have hn := Int.natAbs_tmod a b
  have hle : a.natAbs % b.natAbs ≤ a.natAbs := Nat.mod_le _ _
  rcases Int.le_total 0 a with h0 | h0
  · have := Int.tmod_nonneg b h0
    exact ⟨by omega, by omega⟩
  · have h3 := Int.tmod_nonneg b (a := -a) (by omega)
    rw [Int.neg_tmod] at h3
    exact ⟨by omega, by omega⟩
theorem shr_word {a : Int} (ha : wordI a) (k : Nat) : wordI (a.fdiv (2 ^ k)) := by
  obtain ⟨h1, h2⟩ := ha
  have hp : (0 : Int) < 2 ^ k := Int.pow_pos (by decide)
  rw [Int.fdiv_eq_ediv_of_nonneg _ (by omega)]
  generalize (2 : Int) ^ k = p at hp
  refine ⟨Int.le_ediv_of_mul_le hp ?_, Int.ediv_le_of_le_mul hp ?_⟩ <;> omega
theorem applyN_word {op a b : Int} (ha : wordI a) (hb : wordI b) : wordI (applyN op a b) := by
  unfold applyN
  by_cases h1 : op = 1
  · rw [if_pos h1]
    exact word_bits (.inl rfl) ha hb
  rw [if_neg h1]
  by_cases h2 : op = 2
  · rw [if_pos h2]
    exact word_bits (.inr (.inl rfl)) ha hb
  rw [if_neg h2]
  by_cases h3 : op = 3
  · rw [if_pos h3]
    exact word_bits (.inr (.inr rfl)) ha hb
  rw [if_neg h3]
  by_cases h4 : op = 4
  · rw [if_pos h4]
    split <;> (constructor <;> decide)
  rw [if_neg h4]
  by_cases h5 : op = 5
  · rw [if_pos h5]
    split <;> (constructor <;> decide)
  rw [if_neg h5]
  by_cases h6 : op = 6
  · rw [if_pos h6]
    exact w32_word _
  rw [if_neg h6]
  by_cases h7 : op = 7
  · rw [if_pos h7]
    exact shr_word ha _
  rw [if_neg h7]
  by_cases h8 : op = 8
  · rw [if_pos h8]
    exact w32_word _
  rw [if_neg h8]
  by_cases h9 : op = 9
  · rw [if_pos h9]
    exact w32_word _
  rw [if_neg h9]
  by_cases h10 : op = 10
  · rw [if_pos h10]
    exact w32_word _
  rw [if_neg h10]
  by_cases h11 : op = 11
  · rw [if_pos h11]
    split
    · constructor <;> decide
    · exact w32_word _
  rw [if_neg h11]
  split
  · exact ha
  · exact tmod_word ha
theorem flag_ok (x : Bool) (h : K (.int .i64 (if x then 1 else 0)) H) : ACalls Tryz.prog w0 120 [.bool x] H K := by
  refine acalls_of_sx mix Tryz.func120 of120 (by simp [ir120]) ?_; rw [ir120]; (try delta qT qI qC qO qM qG)
  repeat' (first | simp -implicitDefEqProofs only [zG1,zG2,zG3,zG4,zG5,zG6,zG7,eq_self,resV,rval,X.val,binv,fillL,setR,↓reduceIte,Nat.reduceEqDiff,Nat.reduceAdd,Nat.reduceMul,Nat.reduceLeDiff,Nat.reduceLT,Nat.reduceSub,reduceCtorEq,zGq] | ((with_reducible refine rows_intro (fun _ hb => ?_)); try simp only [set_none, ne_eq] at hb) | ((with_reducible refine new_intro (fun _ hb => ?_)); try simp only [set_none, ne_eq] at hb) | (with_reducible refine draw_same ?_) | ((with_reducible refine gd_split ?_ (fun _ => ?_) (fun _ => ?_)); exact rfl) | ((with_reducible refine td_split ?_ (fun _ => ?_) (fun _ => ?_)); exact rfl) | (with_reducible refine c_split (fun _ => ?_) (fun _ => ?_)))
  all_goals (refine ret_same (ki h ?_); simp [*])
theorem wrapS_ok (m : Int) (h : K (.int .i64 (w32 m)) H) : ACalls Tryz.prog w0 75 [.int .i64 m] H K := by
  have g0 : ¬ (4294967296 : Int) = 0 := by decide
  have t1 := Int.tmod_lt_of_pos m (b := 4294967296) (by decide)
  have t2 : -4294967296 < m.tmod 4294967296 := Int.lt_tmod_of_pos m (by decide)
  have t3 := Int.mul_tdiv_add_tmod m 4294967296
  have e1 : m.tmod 4294967296 > 2147483647 → IntKind.i64.wrap (m.tmod 4294967296 - 4294967296) = m.tmod 4294967296 - 4294967296 := fun _ => wrap_i64 (by omega) (by omega)
  have e2 : m.tmod 4294967296 < -2147483648 → IntKind.i64.wrap (m.tmod 4294967296 + 4294967296) = m.tmod 4294967296 + 4294967296 := fun _ => wrap_i64 (by omega) (by omega)
  refine acalls_of_sx mix Tryz.func75 of75 (by simp [ir75]) ?_; rw [ir75]; (try delta qT qI qC qO qM qG)
  repeat' (first | simp -implicitDefEqProofs only [zG1,zG2,zG3,zG4,zG5,zG6,zG7,eq_self,resV,rval,X.val,binv,fillL,setR,↓reduceIte,Nat.reduceEqDiff,Nat.reduceAdd,Nat.reduceMul,Nat.reduceLeDiff,Nat.reduceLT,Nat.reduceSub,reduceCtorEq,zGq, g0] | ((with_reducible refine rows_intro (fun _ hb => ?_)); try simp only [set_none, ne_eq] at hb) | ((with_reducible refine new_intro (fun _ hb => ?_)); try simp only [set_none, ne_eq] at hb) | (with_reducible refine draw_same ?_) | ((with_reducible refine gd_split ?_ (fun _ => ?_) (fun _ => ?_)); exact rfl) | ((with_reducible refine td_split ?_ (fun _ => ?_) (fun _ => ?_)); exact rfl) | (with_reducible refine c_split (fun _ => ?_) (fun _ => ?_)))
  · (try simp only [beq_iff_eq, beq_eq_false_iff_ne, bne_iff_ne, bne_eq_false_iff_eq, decide_eq_true_eq, decide_eq_false_iff_not, ne_eq, Bool.not_eq_true, Bool.not_eq_false, Bool.not_eq_eq_eq_not, Bool.not_true, Bool.not_false, Int.not_lt, Int.not_le, ge_iff_le, gt_iff_lt] at *)
    rw [e1 ‹_›]
    refine ret_same (ki h ?_)
    unfold w32; rw [IntKind.wrap_i32]; omega
  · (try simp only [beq_iff_eq, beq_eq_false_iff_ne, bne_iff_ne, bne_eq_false_iff_eq, decide_eq_true_eq, decide_eq_false_iff_not, ne_eq, Bool.not_eq_true, Bool.not_eq_false, Bool.not_eq_eq_eq_not, Bool.not_true, Bool.not_false, Int.not_lt, Int.not_le, ge_iff_le, gt_iff_lt] at *)
    rw [e2 ‹_›]
    refine ret_same (ki h ?_)
    unfold w32; rw [IntKind.wrap_i32]; omega
  · (try simp only [beq_iff_eq, beq_eq_false_iff_ne, bne_iff_ne, bne_eq_false_iff_eq, decide_eq_true_eq, decide_eq_false_iff_not, ne_eq, Bool.not_eq_true, Bool.not_eq_false, Bool.not_eq_eq_eq_not, Bool.not_true, Bool.not_false, Int.not_lt, Int.not_le, ge_iff_le, gt_iff_lt] at *)
    refine ret_same (ki h ?_)
    unfold w32; rw [IntKind.wrap_i32]; omega
theorem shift_ok (a b : Int) (r : Bool) (h : K (.int .i64 (if r then a.fdiv (2 ^ (Nat.min (sh31 b).toNat 64)) else w32 (IntKind.i64.wrap (a * 2 ^ (Nat.min (sh31 b).toNat 64))))) H) : ACalls Tryz.prog w0 121 [.int .i64 a, .int .i64 b, .bool r] H K := by
  obtain ⟨h1, h2⟩ := sh31_in b
  have e1 : ¬ bits .and .i64 b 31 < 0 := by show ¬ sh31 b < 0; omega
  have e2 : IntKind.i64.bits = 64 := rfl
  refine acalls_of_sx mix Tryz.func121 of121 (by simp [ir121]) ?_; rw [ir121]; (try delta qT qI qC qO qM qG)
  repeat' (first | simp -implicitDefEqProofs only [zG1,zG2,zG3,zG4,zG5,zG6,zG7,eq_self,resV,rval,X.val,binv,fillL,setR,↓reduceIte,Nat.reduceEqDiff,Nat.reduceAdd,Nat.reduceMul,Nat.reduceLeDiff,Nat.reduceLT,Nat.reduceSub,reduceCtorEq,zGq, e1, e2] | ((with_reducible refine rows_intro (fun _ hb => ?_)); try simp only [set_none, ne_eq] at hb) | ((with_reducible refine new_intro (fun _ hb => ?_)); try simp only [set_none, ne_eq] at hb) | (with_reducible refine draw_same ?_) | ((with_reducible refine gd_split ?_ (fun _ => ?_) (fun _ => ?_)); exact rfl) | ((with_reducible refine td_split ?_ (fun _ => ?_) (fun _ => ?_)); exact rfl) | (with_reducible refine c_split (fun _ => ?_) (fun _ => ?_)) | (with_reducible refine wrapS_ok _ _ _ _ ?_))
  all_goals refine ret_same (ki h ?_)
  all_goals simp [sh31, *]
theorem divide_ok (a b : Int) (h : K (.int .i64 (if b = 0 then -1 else w32 (IntKind.i64.wrap (a.tdiv b)))) H) : ACalls Tryz.prog w0 122 [.int .i64 a, .int .i64 b] H K := by
  by_cases hb0 : b = 0
  · have d0 : (b == 0) = true := by simpa using hb0
    refine acalls_of_sx mix Tryz.func122 of122 (by simp [ir122]) ?_; rw [ir122]; (try delta qT qI qC qO qM qG)
    repeat' (first | simp -implicitDefEqProofs only [zG1,zG2,zG3,zG4,zG5,zG6,zG7,eq_self,resV,rval,X.val,binv,fillL,setR,↓reduceIte,Nat.reduceEqDiff,Nat.reduceAdd,Nat.reduceMul,Nat.reduceLeDiff,Nat.reduceLT,Nat.reduceSub,reduceCtorEq,zGq, d0] | ((with_reducible refine rows_intro (fun _ hb => ?_)); try simp only [set_none, ne_eq] at hb) | ((with_reducible refine new_intro (fun _ hb => ?_)); try simp only [set_none, ne_eq] at hb) | (with_reducible refine draw_same ?_) | ((with_reducible refine gd_split ?_ (fun _ => ?_) (fun _ => ?_)); exact rfl) | ((with_reducible refine td_split ?_ (fun _ => ?_) (fun _ => ?_)); exact rfl) | (with_reducible refine c_split (fun _ => ?_) (fun _ => ?_)) | (with_reducible refine wrapS_ok _ _ _ _ ?_))
    exact ret_same (ki h (by rw [if_pos hb0]))
  · have d0 : (b == 0) = false := by simpa using hb0
    refine acalls_of_sx mix Tryz.func122 of122 (by simp [ir122]) ?_; rw [ir122]; (try delta qT qI qC qO qM qG)
    repeat' (first | simp -implicitDefEqProofs only [zG1,zG2,zG3,zG4,zG5,zG6,zG7,eq_self,resV,rval,X.val,binv,fillL,setR,↓reduceIte,Nat.reduceEqDiff,Nat.reduceAdd,Nat.reduceMul,Nat.reduceLeDiff,Nat.reduceLT,Nat.reduceSub,reduceCtorEq,zGq, d0, hb0] | ((with_reducible refine rows_intro (fun _ hb => ?_)); try simp only [set_none, ne_eq] at hb) | ((with_reducible refine new_intro (fun _ hb => ?_)); try simp only [set_none, ne_eq] at hb) | (with_reducible refine draw_same ?_) | ((with_reducible refine gd_split ?_ (fun _ => ?_) (fun _ => ?_)); exact rfl) | ((with_reducible refine td_split ?_ (fun _ => ?_) (fun _ => ?_)); exact rfl) | (with_reducible refine c_split (fun _ => ?_) (fun _ => ?_)) | (with_reducible refine wrapS_ok _ _ _ _ ?_))
    exact ret_same (ki h (by rw [if_neg hb0]))
theorem remain_ok (a b : Int) (h : K (.int .i64 (if b = 0 then a else a.tmod b)) H) : ACalls Tryz.prog w0 123 [.int .i64 a, .int .i64 b] H K := by
  by_cases hb0 : b = 0
  · have d0 : (b == 0) = true := by simpa using hb0
    refine acalls_of_sx mix Tryz.func123 of123 (by simp [ir123]) ?_; rw [ir123]; (try delta qT qI qC qO qM qG)
    repeat' (first | simp -implicitDefEqProofs only [zG1,zG2,zG3,zG4,zG5,zG6,zG7,eq_self,resV,rval,X.val,binv,fillL,setR,↓reduceIte,Nat.reduceEqDiff,Nat.reduceAdd,Nat.reduceMul,Nat.reduceLeDiff,Nat.reduceLT,Nat.reduceSub,reduceCtorEq,zGq, d0] | ((with_reducible refine rows_intro (fun _ hb => ?_)); try simp only [set_none, ne_eq] at hb) | ((with_reducible refine new_intro (fun _ hb => ?_)); try simp only [set_none, ne_eq] at hb) | (with_reducible refine draw_same ?_) | ((with_reducible refine gd_split ?_ (fun _ => ?_) (fun _ => ?_)); exact rfl) | ((with_reducible refine td_split ?_ (fun _ => ?_) (fun _ => ?_)); exact rfl) | (with_reducible refine c_split (fun _ => ?_) (fun _ => ?_)))
    exact ret_same (ki h (by rw [if_pos hb0]))
  · have d0 : (b == 0) = false := by simpa using hb0
    refine acalls_of_sx mix Tryz.func123 of123 (by simp [ir123]) ?_; rw [ir123]; (try delta qT qI qC qO qM qG)
    repeat' (first | simp -implicitDefEqProofs only [zG1,zG2,zG3,zG4,zG5,zG6,zG7,eq_self,resV,rval,X.val,binv,fillL,setR,↓reduceIte,Nat.reduceEqDiff,Nat.reduceAdd,Nat.reduceMul,Nat.reduceLeDiff,Nat.reduceLT,Nat.reduceSub,reduceCtorEq,zGq, d0, hb0] | ((with_reducible refine rows_intro (fun _ hb => ?_)); try simp only [set_none, ne_eq] at hb) | ((with_reducible refine new_intro (fun _ hb => ?_)); try simp only [set_none, ne_eq] at hb) | (with_reducible refine draw_same ?_) | ((with_reducible refine gd_split ?_ (fun _ => ?_) (fun _ => ?_)); exact rfl) | ((with_reducible refine td_split ?_ (fun _ => ?_) (fun _ => ?_)); exact rfl) | (with_reducible refine c_split (fun _ => ?_) (fun _ => ?_)))
    exact ret_same (ki h (by rw [if_neg hb0]))
theorem applyS_ok (op a b : Int) (ho : 1 ≤ op ∧ op ≤ 12) (ha : wordI a) (hb' : wordI b) (h : K (.tuple #[.int .i64 (applyN op a b), .bool true]) H) : ACalls Tryz.prog w0 117 [.int .i64 op, .int .i64 a, .int .i64 b] H K := by
  have v1 : opValid op = true := by simp [opValid, ho]
  have v2 := (wordI_iff a).2 ha
  have v3 := (wordI_iff b).2 hb'
  have kt : ∀ {x y : Int}, K (.tuple #[.int .i64 x, .bool true]) H → y = x → K (.tuple #[.int .i64 y, .bool true]) H := fun h e => e ▸ h
  refine acalls_of_sx mix Tryz.func117 of117 (by simp [ir117]) ?_; rw [ir117]; (try delta qT qI qC qO qM qG)
  repeat' (first | simp -implicitDefEqProofs only [zG1,zG2,zG3,zG4,zG5,zG6,zG7,eq_self,resV,rval,X.val,binv,fillL,setR,↓reduceIte,Nat.reduceEqDiff,Nat.reduceAdd,Nat.reduceMul,Nat.reduceLeDiff,Nat.reduceLT,Nat.reduceSub,reduceCtorEq,zGq, v1, v2, v3] | ((with_reducible refine rows_intro (fun _ hb => ?_)); try simp only [set_none, ne_eq] at hb) | ((with_reducible refine new_intro (fun _ hb => ?_)); try simp only [set_none, ne_eq] at hb) | (with_reducible refine draw_same ?_) | ((with_reducible refine gd_split ?_ (fun _ => ?_) (fun _ => ?_)); exact rfl) | ((with_reducible refine td_split ?_ (fun _ => ?_) (fun _ => ?_)); exact rfl) | (with_reducible refine c_split (fun _ => ?_) (fun _ => ?_)) | (with_reducible refine opValidS_ok _ _ _ _ ?_) | (with_reducible refine wordValidS_ok _ _ _ _ ?_) | (with_reducible refine flag_ok _ _ _ _ ?_) | (with_reducible refine wrapS_ok _ _ _ _ ?_) | (with_reducible refine shift_ok _ _ _ _ _ _ ?_) | (with_reducible refine divide_ok _ _ _ _ _ ?_) | (with_reducible refine remain_ok _ _ _ _ _ ?_))
  all_goals refine ret_same (kt h ?_)
  all_goals simp only [applyN]
  all_goals (try simp only [beq_iff_eq, beq_eq_false_iff_ne, bne_iff_ne, bne_eq_false_iff_eq, decide_eq_true_eq, decide_eq_false_iff_not, ne_eq, Bool.not_eq_true, Bool.not_eq_false, Bool.not_eq_eq_eq_not, Bool.not_true, Bool.not_false, Int.not_lt, Int.not_le, ge_iff_le, gt_iff_lt] at *)
  all_goals simp [*]
  all_goals (intros; omega)
end Go.Proofs.YtodhkodhndbpmaaGreat
