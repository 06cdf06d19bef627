/- The statement FnExactCrewNew holds for all arguments; part 3 of the texts that show it. No further condition. -/
import Derived.Test.YtfjhjfddgdokgaaFnExactCrewNewP2
namespace Go.Proofs.Ytfjhjfddgdokgaa
set_option linter.all false
open Go Go.RowKit
set_option maxRecDepth 100000
variable (w0 : World)
theorem tot_q (L : List (List Qd)) : tot 5 (L.map qcells) = sumL L := by
  simp only [tot, sumL, List.map_map]
  congr 1
  refine List.map_congr_left fun x _ => ?_
  simp [qcells_len]
def crK1 (c : Cr) (k : Int) : Int := k + 5 * (tot 5 (c.codes.map qcells) : Int)
def crK2 (c : Cr) (k : Int) : Int := crK1 c k + sumP c.threads + c.threads.length
def crK3 (c : Cr) (k : Int) : Int := crK2 c k + sumP c.boxes + c.boxes.length
def crKE (c : Cr) (k : Int) : Int := crK3 c k + c.log.length
/-- A crew, marked from k on. -/
structure MdC (C : AHeap) (c : Cr) (k : Int) (v0 v1 v2 v5 : Value) (b0 b1 b2 b5 : List Nat) : Prop where
  r0 : ∃ M, Marked 5 (fun k n => ints (marks k (n * 5))) k 5 (c.codes.map qcells) M ∧ Rs C 29 111 5 v0 M b0
  r1 : OP C 125 0 1 v1 (mkTh (crK1 c k) c.threads) b1
  r2 : OP C 179 1 0 v2 (mkBx (crK2 c k) c.boxes) b2
  r5 : Rw C 3 1 v5 c.log.length (ints (marks (crK3 c k) c.log.length)) b5
theorem MdC.trans {C C' : AHeap} {c : Cr} {k : Int} {v0 v1 v2 v5 : Value} {b0 b1 b2 b5 : List Nat} (h : MdC C c k v0 v1 v2 v5 b0 b1 b2 b5) (l : AHeap.le C C') : MdC C' c k v0 v1 v2 v5 b0 b1 b2 b5 := by
  obtain ⟨M, h1, h2⟩ := h.r0
  exact ⟨⟨M, h1, h2.trans l⟩, h.r1.trans l, h.r2.trans l, h.r5.trans l⟩
section
variable (H : AHeap) (K : Value → AHeap → Prop)
theorem markCrew_ok (c : Cr) (v0 v1 v2 v5 : Value) (b0 b1 b2 b5 : List Nat) (k : Int) (hO : OwC H c v0 v1 v2 v5 b0 b1 b2 b5) (hb : c.size ≤ 1048576) (h0 : 0 ≤ k) (h1 : k ≤ 1048576)
    (h : ∀ C, Chg H C (b0 ++ (b1 ++ (b2 ++ b5))) → MdC C c k v0 v1 v2 v5 b0 b1 b2 b5 → K (.int .i64 (crKE c k)) C) :
    ACalls Try.prog w0 44 [.agg #[v0, v1, v2, .int .i64 c.turn, .int .i64 c.last, v5], .int .i64 k] H K := by
  have hq := tot_q c.codes
  simp only [Cr.size] at hb
  have e1 : crK1 c k = k + 5 * (tot 5 (c.codes.map qcells) : Int) := rfl
  have e2 : crK2 c k = crK1 c k + sumP c.threads + c.threads.length := rfl
  have e3 : crK3 c k = crK2 c k + sumP c.boxes + c.boxes.length := rfl
  have e4 : crKE c k = crK3 c k + c.log.length := rfl
  obtain ⟨V0, e0, V1, d1, V2, d2, V5, d5, rfl, rfl, rfl, rfl, -⟩ := hO.crR
  refine acalls_of_sx mix Try.func44 of44 (by simp [ir44]) ?_; rw [ir44]; (try delta qT qI qC qO qM qG)
  repeat' (first | simp -implicitDefEqProofs only [zG1,zG2,zG3,zG4,zG5,zG6,zG7,eq_self,resV,rval,X.val,binv,fillL,setR,↓reduceIte,Nat.reduceEqDiff,Nat.reduceAdd,Nat.reduceMul,Nat.reduceLeDiff,Nat.reduceLT,Nat.reduceSub,reduceCtorEq,zGq])
  refine new_intro (fun x2 hx2 => ?_)
  have l1 := (AHeap.le.refl H).fresh hx2 ⟨crc c V0 e0 V1 d1 V2 d2 V5 d5, true, 62, 6⟩
  have k1 := Kn.same H x2 ⟨crc c V0 e0 V1 d1 V2 d2 V5 d5, true, 62, 6⟩
  have nx : ∀ {bs : List Nat}, (∀ y, y ∈ bs → y ∈ b0 ++ (b1 ++ (b2 ++ b5))) → ¬ x2 ∈ bs := fun hs hm => hO.kn x2 (hs _ hm) hx2
  have n0 : ¬ x2 ∈ b0 := nx fun y hy => by simp [hy]
  have n1 : ¬ x2 ∈ b1 := nx fun y hy => by simp [hy]
  have n2 : ¬ x2 ∈ b2 := nx fun y hy => by simp [hy]
  have n5 : ¬ x2 ∈ b5 := nx fun y hy => by simp [hy]
  generalize H.set x2 _ = C at l1 k1 ⊢
  have o := hO.trans l1
  have g := kn6 k1
  repeat' (first | simp -implicitDefEqProofs only [zG1,zG2,zG3,zG4,zG5,zG6,zG7,eq_self,resV,rval,X.val,binv,fillL,setR,↓reduceIte,Nat.reduceEqDiff,Nat.reduceAdd,Nat.reduceMul,Nat.reduceLeDiff,Nat.reduceLT,Nat.reduceSub,reduceCtorEq,zGq, g])
  refine markQuadSS_rs w0 _ _ _ _ _ _ _ k o.r0 (by rw [List.length_map]; omega) h0 (by omega) (fun C1 M h1 hM r0 => ?_)
  rw [← e1]
  replace k1 := k1.chg h1 n0
  have g := kn6 k1
  have r1 := o.r1.chg h1 o.d01
  have r2 := o.r2.chg h1 o.d02
  have r5 := o.r5.chg h1 o.d05
  repeat' (first | simp -implicitDefEqProofs only [zG1,zG2,zG3,zG4,zG5,zG6,zG7,eq_self,resV,rval,X.val,binv,fillL,setR,↓reduceIte,Nat.reduceEqDiff,Nat.reduceAdd,Nat.reduceMul,Nat.reduceLeDiff,Nat.reduceLT,Nat.reduceSub,reduceCtorEq,zGq, g])
  refine markThreadS_op w0 _ _ _ _ _ c.threads _ (crK1 c k) r1 (by omega) (by omega) (by omega) (by omega) (fun C2 h2 r1 => ?_)
  rw [← e2]
  replace k1 := k1.chg h2 n1
  have g := kn6 k1
  replace r0 := r0.chg h2 o.d01.symm
  replace r2 := r2.chg h2 o.d12
  replace r5 := r5.chg h2 o.d15
  repeat' (first | simp -implicitDefEqProofs only [zG1,zG2,zG3,zG4,zG5,zG6,zG7,eq_self,resV,rval,X.val,binv,fillL,setR,↓reduceIte,Nat.reduceEqDiff,Nat.reduceAdd,Nat.reduceMul,Nat.reduceLeDiff,Nat.reduceLT,Nat.reduceSub,reduceCtorEq,zGq, g])
  refine markBoxS_op w0 _ _ _ _ _ c.boxes _ (crK2 c k) r2 (by omega) (by omega) (by omega) (by omega) (fun C3 h3 r2 => ?_)
  rw [← e3]
  replace k1 := k1.chg h3 n2
  have g := kn6 k1
  replace r0 := r0.chg h3 o.d02.symm
  replace r1 := r1.chg h3 o.d12.symm
  replace r5 := r5.chg h3 o.d25
  repeat' (first | simp -implicitDefEqProofs only [zG1,zG2,zG3,zG4,zG5,zG6,zG7,eq_self,resV,rval,X.val,binv,fillL,setR,↓reduceIte,Nat.reduceEqDiff,Nat.reduceAdd,Nat.reduceMul,Nat.reduceLeDiff,Nat.reduceLT,Nat.reduceSub,reduceCtorEq,zGq, g])
  refine markIntS_rw w0 _ _ r5 (by omega) (crK3 c k) (by omega) (by omega) (fun C4 h4 r5 => ?_)
  rw [← e4]
  replace r0 := r0.chg h4 o.d05.symm
  replace r1 := r1.chg h4 o.d15.symm
  replace r2 := r2.chg h4 o.d25.symm
  have hc : Chg C C4 (b0 ++ (b1 ++ (b2 ++ b5))) := (h1.mono fun y hy => by simp [hy]).trans ((h2.mono fun y hy => by simp [hy]).trans ((h3.mono fun y hy => by simp [hy]).trans (h4.mono fun y hy => by simp [hy])))
  repeat' (first | simp -implicitDefEqProofs only [zG1,zG2,zG3,zG4,zG5,zG6,zG7,eq_self,resV,rval,X.val,binv,fillL,setR,↓reduceIte,Nat.reduceEqDiff,Nat.reduceAdd,Nat.reduceMul,Nat.reduceLeDiff,Nat.reduceLT,Nat.reduceSub,reduceCtorEq,zGq])
  exact ret_same (h C4 (fun y k hy hk => ((Kn.of hk).trans l1).chg hc hy) ⟨⟨M, hM, r0⟩, r1, r2, r5⟩)
theorem heldCrew_ok (c : Cr) (v0 v1 v2 v5 : Value) (b0 b1 b2 b5 : List Nat) (k : Int) (hO : MdC H c k v0 v1 v2 v5 b0 b1 b2 b5) (hb : c.size ≤ 1048576) (h0 : 0 ≤ k) (h1 : k ≤ 1048576) (h : K (.int .i64 (crKE c k)) H) :
    ACalls Try.prog w0 45 [.agg #[v0, v1, v2, .int .i64 c.turn, .int .i64 c.last, v5], .int .i64 k] H K := by
  have hq := tot_q c.codes
  simp only [Cr.size] at hb
  have e1 : crK1 c k = k + 5 * (tot 5 (c.codes.map qcells) : Int) := rfl
  have e2 : crK2 c k = crK1 c k + sumP c.threads + c.threads.length := rfl
  have e3 : crK3 c k = crK2 c k + sumP c.boxes + c.boxes.length := rfl
  have e4 : crKE c k = crK3 c k + c.log.length := rfl
  have s1 : decide (crK1 c k < 0) = false := by simp; omega
  have s2 : decide (crK2 c k < 0) = false := by simp; omega
  have s3 : decide (crK3 c k < 0) = false := by simp; omega
  have s4 : decide (crKE c k < 0) = false := by simp; omega
  have hLs : ∀ x ∈ c.codes.map qcells, ∃ n, x.length = n * 5 := fun x hx => by
    obtain ⟨y, hy, rfl⟩ := List.mem_map.1 hx
    exact ⟨y.length, qcells_len y⟩
  obtain ⟨⟨M, hM, r0⟩, r1, r2, r5⟩ := hO
  obtain ⟨V0, d0, rfl⟩ := r0.slice
  obtain ⟨V1, d1, rfl⟩ := r1.slice
  obtain ⟨V2, d2, rfl⟩ := r2.slice
  obtain ⟨V5, d5, rfl, f5⟩ := r5.fl
  have f1 := r1.fp.1
  have f2 := r2.fp.1
  refine acalls_of_sx mix Try.func45 of45 (by simp [ir45]) ?_; rw [ir45]; (try delta qT qI qC qO qM qG)
  repeat' (first | simp -implicitDefEqProofs only [zG1,zG2,zG3,zG4,zG5,zG6,zG7,eq_self,resV,rval,X.val,binv,fillL,setR,↓reduceIte,Nat.reduceEqDiff,Nat.reduceAdd,Nat.reduceMul,Nat.reduceLeDiff,Nat.reduceLT,Nat.reduceSub,reduceCtorEq,zGq])
  refine new_intro (fun x2 hx2 => ?_)
  have l1 := (AHeap.le.refl H).fresh hx2 ⟨[.slice V0 M.length d0, .slice V1 (mkTh (crK1 c k) c.threads).length d1, .slice V2 (mkBx (crK2 c k) c.boxes).length d2, .int .i64 c.turn, .int .i64 c.last, .slice V5 c.log.length d5], true, 62, 6⟩
  have k1 := Kn.same H x2 ⟨[.slice V0 M.length d0, .slice V1 (mkTh (crK1 c k) c.threads).length d1, .slice V2 (mkBx (crK2 c k) c.boxes).length d2, .int .i64 c.turn, .int .i64 c.last, .slice V5 c.log.length d5], true, 62, 6⟩
  generalize H.set x2 _ = C at l1 k1 ⊢
  have g := kn6 k1
  repeat' (first | simp -implicitDefEqProofs only [zG1,zG2,zG3,zG4,zG5,zG6,zG7,eq_self,resV,rval,X.val,binv,fillL,setR,↓reduceIte,Nat.reduceEqDiff,Nat.reduceAdd,Nat.reduceMul,Nat.reduceLeDiff,Nat.reduceLT,Nat.reduceSub,reduceCtorEq,zGq, g])
  refine heldQuadSS_ok w0 _ _ _ _ _ _ M _ k (r0.trans l1) hLs (by rw [List.length_map]; omega) hM h0 (by omega) ?_
  rw [← e1]
  repeat' (first | simp -implicitDefEqProofs only [zG1,zG2,zG3,zG4,zG5,zG6,zG7,eq_self,resV,rval,X.val,binv,fillL,setR,↓reduceIte,Nat.reduceEqDiff,Nat.reduceAdd,Nat.reduceMul,Nat.reduceLeDiff,Nat.reduceLT,Nat.reduceSub,reduceCtorEq,zGq, g, s1, mkTh_len])
  refine heldThreadS_ok w0 _ _ _ _ c.threads (crK1 c k) (f1.le l1) (by omega) (by omega) (by omega) (by omega) ?_
  rw [← e2]
  repeat' (first | simp -implicitDefEqProofs only [zG1,zG2,zG3,zG4,zG5,zG6,zG7,eq_self,resV,rval,X.val,binv,fillL,setR,↓reduceIte,Nat.reduceEqDiff,Nat.reduceAdd,Nat.reduceMul,Nat.reduceLeDiff,Nat.reduceLT,Nat.reduceSub,reduceCtorEq,zGq, g, s2, mkBx_len])
  refine heldBoxS_ok w0 _ _ _ _ c.boxes (crK2 c k) (f2.le l1) (by omega) (by omega) (by omega) (by omega) ?_
  rw [← e3]
  repeat' (first | simp -implicitDefEqProofs only [zG1,zG2,zG3,zG4,zG5,zG6,zG7,eq_self,resV,rval,X.val,binv,fillL,setR,↓reduceIte,Nat.reduceEqDiff,Nat.reduceAdd,Nat.reduceMul,Nat.reduceLeDiff,Nat.reduceLT,Nat.reduceSub,reduceCtorEq,zGq, g, s3])
  refine heldIntS_ok w0 _ _ _ _ _ (crK3 c k) (f5.le l1) (by omega) (by omega) (by omega) ?_
  rw [← e4]
  repeat' (first | simp -implicitDefEqProofs only [zG1,zG2,zG3,zG4,zG5,zG6,zG7,eq_self,resV,rval,X.val,binv,fillL,setR,↓reduceIte,Nat.reduceEqDiff,Nat.reduceAdd,Nat.reduceMul,Nat.reduceLeDiff,Nat.reduceLT,Nat.reduceSub,reduceCtorEq,zGq, g, s4])
  exact ⟨H, l1, h⟩
end
end Go.Proofs.Ytfjhjfddgdokgaa
namespace Go.Proofs.Ytfjhjfddgdokgaa
set_option linter.all false
open Go Go.RowKit Go.Joins Go.ChangeShapes Go.WideShapes Go.ChangeAt Go.Deep
set_option linter.unusedVariables false
set_option maxRecDepth 100000
theorem sumL_m {m : Nat} : ∀ {L : List (List Qd)}, (∀ x ∈ L, x.length ≤ m) → sumL L ≤ L.length * m
  | [], _ => by simp [sumL]
  | x :: L, h => by
    have h1 := h x (by simp)
    have h2 := sumL_m (L := L) fun y hy => h y (by simp [hy])
    have e : sumL (x :: L) = x.length + sumL L := by simp [sumL]
    rw [e, List.length_cons, Nat.succ_mul]
    omega
theorem sumP_m {m : Nat} : ∀ {L : List (List Int × Int)}, (∀ x ∈ L, x.1.length ≤ m) → sumP L ≤ L.length * m
  | [], _ => by simp [sumP]
  | x :: L, h => by
    have h1 := h x (by simp)
    have h2 := sumP_m (L := L) fun y hy => h y (by simp [hy])
    have e : sumP (x :: L) = x.1.length + sumP L := by simp [sumP]
    rw [e, List.length_cons, Nat.succ_mul]
    omega
theorem newCrew_size (rs : List Int) (L : List (List Qd)) : (newCrew rs L).size ≤ 1048576 := by
  unfold newCrew
  split
  · rename_i hv
    simp only [newOk, Bool.and_eq_true] at hv
    have hv2 := hv.2
    have hc := hv2
    rw [crewOk] at hc
    simp only [crewPre, turnsOk, boxesOk, Bool.and_eq_true, decide_eq_true_eq] at hc
    have hl : (crN L L.length rs).threads.length = (crN L L.length rs).codes.length := by omega
    have h3 : (crN L L.length rs).codes.length ≤ 3 := by omega
    have hb3 : (crN L L.length rs).boxes.length ≤ 3 := by omega
    have e1 : sumL (crN L L.length rs).codes ≤ (crN L L.length rs).codes.length * 600 := sumL_m fun x hx => by
      obtain ⟨k, hk, rfl⟩ := List.getElem_of_mem hx
      have hk1 : k < (crN L L.length rs).threads.length := by omega
      cases ht : threadValid ((crN L L.length rs).threads[k]).1 ((crN L L.length rs).threads[k]).2 (crN L L.length rs).codes[k] with
      | false => rw [crewOk_bad hk1 hk (by rw [ht]; rfl)] at hv2; cases hv2
      | true =>
        simp only [threadValid, Bool.and_eq_true] at ht
        exact (code_at ht.1).2.1
    have e2 : sumP (crN L L.length rs).threads ≤ (crN L L.length rs).threads.length * 12 := sumP_m fun x hx => by
      simp only [crN, zt, List.mem_replicate] at hx; rw [hx.2]; simp
    have e3 : sumP (crN L L.length rs).boxes ≤ (crN L L.length rs).boxes.length * 0 := sumP_m fun x hx => by
      simp only [crN, bx0, List.mem_map] at hx; obtain ⟨r, _, rfl⟩ := hx; simp
    have e4 : (crN L L.length rs).log.length = 0 := rfl
    simp only [Cr.size]
    omega
  · simp [Cr.size, crZ, sumL, sumP]
theorem OwC.chg' {C C' : AHeap} {c : Cr} {v0 v1 v2 v5 : Value} {b0 b1 b2 b5 bs : List Nat} (h : OwC C c v0 v1 v2 v5 b0 b1 b2 b5) (hc : Chg C C' bs) (hd : Apart (b0 ++ (b1 ++ (b2 ++ b5))) bs) : OwC C' c v0 v1 v2 v5 b0 b1 b2 b5 :=
  h.chg hc (fun y hy => hd y (by simp [hy])) (fun y hy => hd y (by simp [hy])) (fun y hy => hd y (by simp [hy])) (fun y hy => hd y (by simp [hy]))
theorem OwC.rd {C : AHeap} {c : Cr} {A0 A1 A2 A5 : Option Addr} {m0 m1 m2 m5 c0 c1 c2 c5 : Nat} {b0 b1 b2 b5 : List Nat} (h : OwC C c (.slice A0 m0 c0) (.slice A1 m1 c1) (.slice A2 m2 c2) (.slice A5 m5 c5) b0 b1 b2 b5) : CrR C c A0 A1 A2 A5 := ⟨h.r0.fr, h.r1.fp.1, h.r2.fp.1, h.r5.fl'.1⟩
theorem rs_slice {C : AHeap} {v : Value} {L : List (List Qd)} {bs : List Nat} (h : Rs C 29 111 5 v (L.map qcells) bs) : ∃ A c, v = .slice A L.length c := by
  obtain ⟨A, c, e⟩ := h.slice
  exact ⟨A, c, by rw [e, List.length_map]⟩
theorem lawCrewNew_ok (w0 : World) (H : AHeap) (K : Value → AHeap → Prop) (A : Option Addr) (c : Nat) (rs : List Int) (B : Option Addr) (d : Nat) (L : List (List Qd)) (hx : Fl H A (ints rs)) (hr : rs.length ≤ maxLen) (hs : FR H B L) (hm : L.length ≤ maxLen) (hL : ∀ x ∈ L, x.length ≤ maxLen) (h : ∀ H', K (.bool true) H') :
    ACalls Try.prog w0 7 [.slice A rs.length c, .slice B L.length d] H K := by
  have bx : ∀ b : Bool, (b != b) = false := fun b => by cases b <;> rfl
  by_cases hr1 : (rs.length : Int) > 1048576
  · have d0 : decide ((rs.length : Int) > 1048576) = true := decide_eq_true hr1
    refine acalls_of_sx mix Try.func7 of7 (by simp [ir7]) ?_; rw [ir7]; (try delta qT qI qC qO qM qG)
    repeat' (first | simp -implicitDefEqProofs only [zG1,zG2,zG3,zG4,zG5,zG6,zG7,eq_self,resV,rval,X.val,binv,fillL,setR,↓reduceIte,Nat.reduceEqDiff,Nat.reduceAdd,Nat.reduceMul,Nat.reduceLeDiff,Nat.reduceLT,Nat.reduceSub,reduceCtorEq,zGp, d0] | ((with_reducible refine rows_intro (fun _ hb => ?_)); try simp only [set_none, ne_eq] at hb) | ((with_reducible refine new_intro (fun _ hb => ?_)); try simp only [set_none, ne_eq] at hb) | (with_reducible refine draw_same ?_) | ((with_reducible refine gd_split ?_ (fun _ => ?_) (fun _ => ?_)); exact rfl) | ((with_reducible refine td_split ?_ (fun _ => ?_) (fun _ => ?_)); exact rfl) | (with_reducible refine c_split (fun _ => ?_) (fun _ => ?_)))
    exact ret_same (h _)
  have d0 : decide ((rs.length : Int) > 1048576) = false := decide_eq_false hr1
  by_cases hbig : (1048576 : Int) < ((L.length : Int) + (sumL L : Int))
  · have d1 : decide ((-1 : Int) < 0) = true := by decide
    have hbig' := eq_true hbig
    refine acalls_of_sx mix Try.func7 of7 (by simp [ir7]) ?_; rw [ir7]; (try delta qT qI qC qO qM qG)
    repeat' (first | simp -implicitDefEqProofs only [zG1,zG2,zG3,zG4,zG5,zG6,zG7,eq_self,resV,rval,X.val,binv,fillL,setR,↓reduceIte,Nat.reduceEqDiff,Nat.reduceAdd,Nat.reduceMul,Nat.reduceLeDiff,Nat.reduceLT,Nat.reduceSub,reduceCtorEq,zGp, d0, hbig', d1, if_true] | ((with_reducible refine rows_intro (fun _ hb => ?_)); try simp only [set_none, ne_eq] at hb) | ((with_reducible refine new_intro (fun _ hb => ?_)); try simp only [set_none, ne_eq] at hb) | (with_reducible refine draw_same ?_) | ((with_reducible refine gd_split ?_ (fun _ => ?_) (fun _ => ?_)); exact rfl) | ((with_reducible refine td_split ?_ (fun _ => ?_) (fun _ => ?_)); exact rfl) | (with_reducible refine c_split (fun _ => ?_) (fun _ => ?_)) | (with_reducible refine szQuadSS_ok w0 _ _ B d L hs hm hL 1048576 (by decide) (by decide) ?_))
    exact ret_same (h _)
  have d1 : decide ((1048576 : Int) - ((L.length : Int) + (sumL L : Int)) < 0) = false := by simp; omega
  have hbig' := eq_false hbig
  have hn : rs.length ≤ 1048576 := by omega
  have hmL : L.length ≤ 1048576 := by omega
  have hLL : ∀ x ∈ L, x.length ≤ 1048576 := fun x hx => by have := sumL_at hx; omega
  have hsz := newCrew_size rs L
  have hb : CrB 1048576 (newCrew rs L) := CrB.of_size hsz
  have hq := tot_q L
  refine acalls_of_sx mix Try.func7 of7 (by simp [ir7]) ?_; rw [ir7]; (try delta qT qI qC qO qM qG)
  repeat' (first | simp -implicitDefEqProofs only [zG1,zG2,zG3,zG4,zG5,zG6,zG7,eq_self,resV,rval,X.val,binv,fillL,setR,↓reduceIte,Nat.reduceEqDiff,Nat.reduceAdd,Nat.reduceMul,Nat.reduceLeDiff,Nat.reduceLT,Nat.reduceSub,reduceCtorEq,zGp, d0, hbig', d1, if_false] | ((with_reducible refine rows_intro (fun _ hb => ?_)); try simp only [set_none, ne_eq] at hb) | ((with_reducible refine new_intro (fun _ hb => ?_)); try simp only [set_none, ne_eq] at hb) | (with_reducible refine draw_same ?_) | ((with_reducible refine gd_split ?_ (fun _ => ?_) (fun _ => ?_)); exact rfl) | ((with_reducible refine td_split ?_ (fun _ => ?_) (fun _ => ?_)); exact rfl) | (with_reducible refine c_split (fun _ => ?_) (fun _ => ?_)) | (with_reducible refine szQuadSS_ok w0 _ _ B d L hs hm hL 1048576 (by decide) (by decide) ?_))
  refine toIntS_ok w0 _ _ A c rs hx hn (fun v1 C1 s1 l1 n1 w1 => ?_)
  obtain ⟨V1, e1, rfl, f1⟩ := w1.fl
  repeat' (first | simp -implicitDefEqProofs only [zG1,zG2,zG3,zG4,zG5,zG6,zG7,eq_self,resV,rval,X.val,binv,fillL,setR,↓reduceIte,Nat.reduceEqDiff,Nat.reduceAdd,Nat.reduceMul,Nat.reduceLeDiff,Nat.reduceLT,Nat.reduceSub,reduceCtorEq,zGp] | ((with_reducible refine rows_intro (fun _ hb => ?_)); try simp only [set_none, ne_eq] at hb) | ((with_reducible refine new_intro (fun _ hb => ?_)); try simp only [set_none, ne_eq] at hb) | (with_reducible refine draw_same ?_) | ((with_reducible refine gd_split ?_ (fun _ => ?_) (fun _ => ?_)); exact rfl) | ((with_reducible refine td_split ?_ (fun _ => ?_) (fun _ => ?_)); exact rfl) | (with_reducible refine c_split (fun _ => ?_) (fun _ => ?_)))
  refine toQuadSS_ok w0 _ _ B d L (hs.le l1) hmL hLL (fun v2 C2 s2 l2 n2 R2 => ?_)
  obtain ⟨V2, e2, rfl⟩ := rs_slice R2
  have L2 := l1.trans l2
  repeat' (first | simp -implicitDefEqProofs only [zG1,zG2,zG3,zG4,zG5,zG6,zG7,eq_self,resV,rval,X.val,binv,fillL,setR,↓reduceIte,Nat.reduceEqDiff,Nat.reduceAdd,Nat.reduceMul,Nat.reduceLeDiff,Nat.reduceLT,Nat.reduceSub,reduceCtorEq,zGp] | ((with_reducible refine rows_intro (fun _ hb => ?_)); try simp only [set_none, ne_eq] at hb) | ((with_reducible refine new_intro (fun _ hb => ?_)); try simp only [set_none, ne_eq] at hb) | (with_reducible refine draw_same ?_) | ((with_reducible refine gd_split ?_ (fun _ => ?_) (fun _ => ?_)); exact rfl) | ((with_reducible refine td_split ?_ (fun _ => ?_) (fun _ => ?_)); exact rfl) | (with_reducible refine c_split (fun _ => ?_) (fun _ => ?_)))
  refine crewNewS_ok w0 _ _ V1 e1 rs V2 e2 L (f1.le l2) hn R2.fr hmL hLL (fun v0 v1 v2 v5 p0 p1 p2 p5 C3 l3 o3 _ => ?_)
  obtain ⟨P0, i0, P1, i1, P2, i2, P5, i5, rfl, rfl, rfl, rfl, -⟩ := o3.crR
  have L3 := L2.trans l3
  repeat' (first | simp -implicitDefEqProofs only [zG1,zG2,zG3,zG4,zG5,zG6,zG7,eq_self,resV,rval,X.val,binv,fillL,setR,↓reduceIte,Nat.reduceEqDiff,Nat.reduceAdd,Nat.reduceMul,Nat.reduceLeDiff,Nat.reduceLT,Nat.reduceSub,reduceCtorEq,zGp])
  refine new_intro (fun x6 hx6 => ?_)
  have l4' := (AHeap.le.refl C3).fresh hx6 ⟨crz, true, 62, 6⟩
  have k4' := Kn.same C3 x6 ⟨crz, true, 62, 6⟩
  generalize C3.set x6 _ = C4 at l4' k4' ⊢
  repeat' (first | simp -implicitDefEqProofs only [zG1,zG2,zG3,zG4,zG5,zG6,zG7,eq_self,resV,rval,X.val,binv,fillL,setR,↓reduceIte,Nat.reduceEqDiff,Nat.reduceAdd,Nat.reduceMul,Nat.reduceLeDiff,Nat.reduceLT,Nat.reduceSub,reduceCtorEq,zGp])
  refine st_own k4' (crc (newCrew rs L) P0 i0 P1 i1 P2 i2 P5 i5) rfl rfl (by simp) (by simp [ocI, ocS]) (fun C5 h5 k6 => ?_)
  simp only [setR, List.set_cons_zero, List.set_cons_succ] at k6
  have l5 : AHeap.le C3 C5 := h5.keep l4' (New.one hx6)
  have L5 := L3.trans l5
  have o35 := o3.trans l5
  repeat' (first | simp -implicitDefEqProofs only [zG1,zG2,zG3,zG4,zG5,zG6,zG7,eq_self,resV,rval,X.val,binv,fillL,setR,↓reduceIte,Nat.reduceEqDiff,Nat.reduceAdd,Nat.reduceMul,Nat.reduceLeDiff,Nat.reduceLT,Nat.reduceSub,reduceCtorEq,zGp] | ((with_reducible refine rows_intro (fun _ hb => ?_)); try simp only [set_none, ne_eq] at hb) | ((with_reducible refine new_intro (fun _ hb => ?_)); try simp only [set_none, ne_eq] at hb) | (with_reducible refine draw_same ?_) | ((with_reducible refine gd_split ?_ (fun _ => ?_) (fun _ => ?_)); exact rfl) | ((with_reducible refine td_split ?_ (fun _ => ?_) (fun _ => ?_)); exact rfl) | (with_reducible refine c_split (fun _ => ?_) (fun _ => ?_)))
  refine toIntS_ok w0 _ _ A c rs (hx.le L5) hn (fun v8 C6 s8 l6 n8 w8 => ?_)
  obtain ⟨V8, e8, rfl, f8⟩ := w8.fl
  have L6 := L5.trans l6
  repeat' (first | simp -implicitDefEqProofs only [zG1,zG2,zG3,zG4,zG5,zG6,zG7,eq_self,resV,rval,X.val,binv,fillL,setR,↓reduceIte,Nat.reduceEqDiff,Nat.reduceAdd,Nat.reduceMul,Nat.reduceLeDiff,Nat.reduceLT,Nat.reduceSub,reduceCtorEq,zGp] | ((with_reducible refine rows_intro (fun _ hb => ?_)); try simp only [set_none, ne_eq] at hb) | ((with_reducible refine new_intro (fun _ hb => ?_)); try simp only [set_none, ne_eq] at hb) | (with_reducible refine draw_same ?_) | ((with_reducible refine gd_split ?_ (fun _ => ?_) (fun _ => ?_)); exact rfl) | ((with_reducible refine td_split ?_ (fun _ => ?_) (fun _ => ?_)); exact rfl) | (with_reducible refine c_split (fun _ => ?_) (fun _ => ?_)))
  refine toQuadSS_ok w0 _ _ B d L (hs.le L6) hmL hLL (fun v9 C7 s9' l7 n9' R9' => ?_)
  obtain ⟨s9, ss9, q9, R9⟩ := R9'.tight
  have n9 : New C6 s9 := fun y hy => n9' y (ss9 y hy)
  clear R9' n9' ss9
  obtain ⟨V9, e9, rfl⟩ := rs_slice R9
  have L7 := L6.trans l7
  have w87 := w8.trans l7
  repeat' (first | simp -implicitDefEqProofs only [zG1,zG2,zG3,zG4,zG5,zG6,zG7,eq_self,resV,rval,X.val,binv,fillL,setR,↓reduceIte,Nat.reduceEqDiff,Nat.reduceAdd,Nat.reduceMul,Nat.reduceLeDiff,Nat.reduceLT,Nat.reduceSub,reduceCtorEq,zGp] | ((with_reducible refine rows_intro (fun _ hb => ?_)); try simp only [set_none, ne_eq] at hb) | ((with_reducible refine new_intro (fun _ hb => ?_)); try simp only [set_none, ne_eq] at hb) | (with_reducible refine draw_same ?_) | ((with_reducible refine gd_split ?_ (fun _ => ?_) (fun _ => ?_)); exact rfl) | ((with_reducible refine td_split ?_ (fun _ => ?_) (fun _ => ?_)); exact rfl) | (with_reducible refine c_split (fun _ => ?_) (fun _ => ?_)))
  refine crewNew_ok w0 _ _ V8 e8 rs V9 e9 L (f8.le l7) hn R9.fr hmL hLL (fun v0 v1 v2 v5 t0 t1 t2 t5 C8 l8 o8 nt => ?_)
  obtain ⟨T0, j0, T1, j1, T2, j2, T5, j5, rfl, rfl, rfl, rfl, -⟩ := o8.crR
  have L8 := L7.trans l8
  repeat' (first | simp -implicitDefEqProofs only [zG1,zG2,zG3,zG4,zG5,zG6,zG7,eq_self,resV,rval,X.val,binv,fillL,setR,↓reduceIte,Nat.reduceEqDiff,Nat.reduceAdd,Nat.reduceMul,Nat.reduceLeDiff,Nat.reduceLT,Nat.reduceSub,reduceCtorEq,zGp])
  refine new_intro (fun x10 hx10 => ?_)
  have l9' := (AHeap.le.refl C8).fresh hx10 ⟨crz, true, 62, 6⟩
  have k9' := Kn.same C8 x10 ⟨crz, true, 62, 6⟩
  generalize C8.set x10 _ = C9 at l9' k9' ⊢
  repeat' (first | simp -implicitDefEqProofs only [zG1,zG2,zG3,zG4,zG5,zG6,zG7,eq_self,resV,rval,X.val,binv,fillL,setR,↓reduceIte,Nat.reduceEqDiff,Nat.reduceAdd,Nat.reduceMul,Nat.reduceLeDiff,Nat.reduceLT,Nat.reduceSub,reduceCtorEq,zGp])
  refine st_own k9' (crc (newCrew rs L) T0 j0 T1 j1 T2 j2 T5 j5) rfl rfl (by simp) (by simp [ocI, ocS]) (fun C10 h10 k10 => ?_)
  simp only [setR, List.set_cons_zero, List.set_cons_succ] at k10
  have l10 : AHeap.le C8 C10 := h10.keep l9' (New.one hx10)
  have L10 := L8.trans l10
  have k67 := k6.trans (l6.trans l7)
  have k610 := k67.trans (l8.trans l10)
  have o310 := o35.trans (l6.trans (l7.trans (l8.trans l10)))
  have o810 := o8.trans l10
  have w810 := w87.trans (l8.trans l10)
  have R910 := R9.trans (l8.trans l10)
  have r610 := rd6 k610
  have r1010 := rd6 k10
  have nx6s8 : ¬ x6 ∈ s8 := fun hm => k6.ne (n8 _ hm)
  have nx6s9 : ¬ x6 ∈ s9 := fun hm => (k6.trans l6).ne (n9 _ hm)
  have nx6t : ¬ x6 ∈ t0 ++ (t1 ++ (t2 ++ t5)) := fun hm => k67.ne (nt _ hm)
  have nx10s8 : ¬ x10 ∈ s8 := fun hm => le_kept l8 (rw_kn w87 _ hm) hx10
  have nx10s9 : ¬ x10 ∈ s9 := fun hm => le_kept l8 (q9 _ hm) hx10
  have nx10t : ¬ x10 ∈ t0 ++ (t1 ++ (t2 ++ t5)) := fun hm => o8.kn _ hm hx10
  repeat' (first | simp -implicitDefEqProofs only [zG1,zG2,zG3,zG4,zG5,zG6,zG7,eq_self,resV,rval,X.val,binv,fillL,setR,↓reduceIte,Nat.reduceEqDiff,Nat.reduceAdd,Nat.reduceMul,Nat.reduceLeDiff,Nat.reduceLT,Nat.reduceSub,reduceCtorEq,zGp, r610, r1010, bx, Bool.not_true] | ((with_reducible refine rows_intro (fun _ hb => ?_)); try simp only [set_none, ne_eq] at hb) | ((with_reducible refine new_intro (fun _ hb => ?_)); try simp only [set_none, ne_eq] at hb) | (with_reducible refine draw_same ?_) | ((with_reducible refine gd_split ?_ (fun _ => ?_) (fun _ => ?_)); exact rfl) | ((with_reducible refine td_split ?_ (fun _ => ?_) (fun _ => ?_)); exact rfl) | (with_reducible refine c_split (fun _ => ?_) (fun _ => ?_)) | (with_reducible refine eqCrew_ok w0 _ _ (newCrew rs L) T0 j0 T1 j1 T2 j2 T5 j5 P0 i0 P1 i1 P2 i2 P5 i5 o810.rd o310.rd hb ?_))
  refine toIntS_ok w0 _ _ A c rs (hx.le L10) hn (fun v11 C11 s11 l11 n11 w11 => ?_)
  obtain ⟨V11, e11, rfl, f11⟩ := w11.fl
  have L11 := L10.trans l11
  repeat' (first | simp -implicitDefEqProofs only [zG1,zG2,zG3,zG4,zG5,zG6,zG7,eq_self,resV,rval,X.val,binv,fillL,setR,↓reduceIte,Nat.reduceEqDiff,Nat.reduceAdd,Nat.reduceMul,Nat.reduceLeDiff,Nat.reduceLT,Nat.reduceSub,reduceCtorEq,zGp, decide_true, Bool.not_true] | ((with_reducible refine rows_intro (fun _ hb => ?_)); try simp only [set_none, ne_eq] at hb) | ((with_reducible refine new_intro (fun _ hb => ?_)); try simp only [set_none, ne_eq] at hb) | (with_reducible refine draw_same ?_) | ((with_reducible refine gd_split ?_ (fun _ => ?_) (fun _ => ?_)); exact rfl) | ((with_reducible refine td_split ?_ (fun _ => ?_) (fun _ => ?_)); exact rfl) | (with_reducible refine c_split (fun _ => ?_) (fun _ => ?_)) | (with_reducible refine eqIntS_ok _ _ _ V8 V11 e8 e11 _ _ (w810.trans l11).fl'.1 f11 (by omega) ?_))
  refine toQuadSS_ok w0 _ _ B d L (hs.le L11) hmL hLL (fun v12 C12 s12 l12 n12 R12 => ?_)
  obtain ⟨V12, e12, rfl⟩ := rs_slice R12
  have L12 := L11.trans l12
  have lz12 := l11.trans l12
  have w812 := w810.trans lz12
  have R912 := R910.trans lz12
  repeat' (first | simp -implicitDefEqProofs only [zG1,zG2,zG3,zG4,zG5,zG6,zG7,eq_self,resV,rval,X.val,binv,fillL,setR,↓reduceIte,Nat.reduceEqDiff,Nat.reduceAdd,Nat.reduceMul,Nat.reduceLeDiff,Nat.reduceLT,Nat.reduceSub,reduceCtorEq,zGp, Bool.not_true] | ((with_reducible refine rows_intro (fun _ hb => ?_)); try simp only [set_none, ne_eq] at hb) | ((with_reducible refine new_intro (fun _ hb => ?_)); try simp only [set_none, ne_eq] at hb) | (with_reducible refine draw_same ?_) | ((with_reducible refine gd_split ?_ (fun _ => ?_) (fun _ => ?_)); exact rfl) | ((with_reducible refine td_split ?_ (fun _ => ?_) (fun _ => ?_)); exact rfl) | (with_reducible refine c_split (fun _ => ?_) (fun _ => ?_)) | (with_reducible refine eqQuadSS_ok _ _ _ V9 V12 e9 e12 L R912.fr R12.fr hmL hLL ?_))
  refine markIntS_rw w0 _ _ w812 (by omega) 1 (by decide) (by decide) (fun C13 h13 _ => ?_)
  have L13 := h13.keep L12 (n8.le L5)
  have k613 := (k610.trans lz12).chg h13 nx6s8
  have k1013 := (k10.trans lz12).chg h13 nx10s8
  have o313 := (o310.trans lz12).chg' h13 fun y hy hm => o35.kn y hy (n8 y hm)
  have o813 := (o810.trans lz12).chg' h13 fun y hy hm => rw_kn w87 y hm (nt y hy)
  have R913 := R912.chg h13 fun y hy hm => rw_kn w8 y hm (n9 y hy)
  repeat' (first | simp -implicitDefEqProofs only [zG1,zG2,zG3,zG4,zG5,zG6,zG7,eq_self,resV,rval,X.val,binv,fillL,setR,↓reduceIte,Nat.reduceEqDiff,Nat.reduceAdd,Nat.reduceMul,Nat.reduceLeDiff,Nat.reduceLT,Nat.reduceSub,reduceCtorEq,zGp] | ((with_reducible refine rows_intro (fun _ hb => ?_)); try simp only [set_none, ne_eq] at hb) | ((with_reducible refine new_intro (fun _ hb => ?_)); try simp only [set_none, ne_eq] at hb) | (with_reducible refine draw_same ?_) | ((with_reducible refine gd_split ?_ (fun _ => ?_) (fun _ => ?_)); exact rfl) | ((with_reducible refine td_split ?_ (fun _ => ?_) (fun _ => ?_)); exact rfl) | (with_reducible refine c_split (fun _ => ?_) (fun _ => ?_)))
  refine markQuadSS_rs w0 _ _ V9 _ e9 _ s9 (1 + rs.length) R913 (by rw [List.length_map]; omega) (by omega) (by omega) (fun C14 M h14 _ _ => ?_)
  have L14 := h14.keep L13 (n9.le L6)
  have k614 := k613.chg h14 nx6s9
  have k1014 := k1013.chg h14 nx10s9
  have o314 := o313.chg' h14 fun y hy hm => le_kept l6 (o35.kn y hy) (n9 y hm)
  have o814 := o813.chg' h14 fun y hy hm => q9 y hm (nt y hy)
  have r614 := rd6 k614
  have r1014 := rd6 k1014
  have d5 : decide ((1 : Int) + (rs.length : Int) + 5 * (tot 5 (L.map qcells) : Int) < 0) = false := by simp; omega
  repeat' (first | simp -implicitDefEqProofs only [zG1,zG2,zG3,zG4,zG5,zG6,zG7,eq_self,resV,rval,X.val,binv,fillL,setR,↓reduceIte,Nat.reduceEqDiff,Nat.reduceAdd,Nat.reduceMul,Nat.reduceLeDiff,Nat.reduceLT,Nat.reduceSub,reduceCtorEq,zGp, r614, r1014, d5, bx, Bool.not_true] | ((with_reducible refine rows_intro (fun _ hb => ?_)); try simp only [set_none, ne_eq] at hb) | ((with_reducible refine new_intro (fun _ hb => ?_)); try simp only [set_none, ne_eq] at hb) | (with_reducible refine draw_same ?_) | ((with_reducible refine gd_split ?_ (fun _ => ?_) (fun _ => ?_)); exact rfl) | ((with_reducible refine td_split ?_ (fun _ => ?_) (fun _ => ?_)); exact rfl) | (with_reducible refine c_split (fun _ => ?_) (fun _ => ?_)) | (with_reducible refine eqCrew_ok w0 _ _ (newCrew rs L) T0 j0 T1 j1 T2 j2 T5 j5 P0 i0 P1 i1 P2 i2 P5 i5 o814.rd o314.rd hb ?_))
  refine markCrew_ok w0 _ _ (newCrew rs L) _ _ _ _ t0 t1 t2 t5 1 o814 hsz (by decide) (by decide) (fun C15 h15 w15 => ?_)
  have L15 := h15.keep L14 (nt.le L7)
  have k615 := k614.chg h15 nx6t
  have k1015 := k1014.chg h15 nx10t
  have o315 := o314.chg' h15 fun y hy hm => le_kept (l6.trans l7) (o35.kn y hy) (nt y hm)
  have hke : (0 : Int) ≤ crKE (newCrew rs L) 1 := by simp only [crKE, crK3, crK2, crK1]; omega
  have d6 : decide (crKE (newCrew rs L) 1 < 0) = false := by simp; omega
  have r1015 := rd6 k1015
  repeat' (first | simp -implicitDefEqProofs only [zG1,zG2,zG3,zG4,zG5,zG6,zG7,eq_self,resV,rval,X.val,binv,fillL,setR,↓reduceIte,Nat.reduceEqDiff,Nat.reduceAdd,Nat.reduceMul,Nat.reduceLeDiff,Nat.reduceLT,Nat.reduceSub,reduceCtorEq,zGp, r1015, d6, bne_self_eq_false] | ((with_reducible refine rows_intro (fun _ hb => ?_)); try simp only [set_none, ne_eq] at hb) | ((with_reducible refine new_intro (fun _ hb => ?_)); try simp only [set_none, ne_eq] at hb) | (with_reducible refine draw_same ?_) | ((with_reducible refine gd_split ?_ (fun _ => ?_) (fun _ => ?_)); exact rfl) | ((with_reducible refine td_split ?_ (fun _ => ?_) (fun _ => ?_)); exact rfl) | (with_reducible refine c_split (fun _ => ?_) (fun _ => ?_)) | (with_reducible refine heldCrew_ok w0 _ _ (newCrew rs L) _ _ _ _ _ _ _ _ 1 w15 hsz (by decide) (by decide) ?_))
  refine toIntS_ok w0 _ _ A c rs (hx.le L15) hn (fun v16 C16 s16 l16 n16 w16 => ?_)
  obtain ⟨V16, e16, rfl, f16⟩ := w16.fl
  have L16 := L15.trans l16
  repeat' (first | simp -implicitDefEqProofs only [zG1,zG2,zG3,zG4,zG5,zG6,zG7,eq_self,resV,rval,X.val,binv,fillL,setR,↓reduceIte,Nat.reduceEqDiff,Nat.reduceAdd,Nat.reduceMul,Nat.reduceLeDiff,Nat.reduceLT,Nat.reduceSub,reduceCtorEq,zGp] | ((with_reducible refine rows_intro (fun _ hb => ?_)); try simp only [set_none, ne_eq] at hb) | ((with_reducible refine new_intro (fun _ hb => ?_)); try simp only [set_none, ne_eq] at hb) | (with_reducible refine draw_same ?_) | ((with_reducible refine gd_split ?_ (fun _ => ?_) (fun _ => ?_)); exact rfl) | ((with_reducible refine td_split ?_ (fun _ => ?_) (fun _ => ?_)); exact rfl) | (with_reducible refine c_split (fun _ => ?_) (fun _ => ?_)))
  refine toQuadSS_ok w0 _ _ B d L (hs.le L16) hmL hLL (fun v17 C17 s17 l17 n17 R17 => ?_)
  obtain ⟨V17, e17, rfl⟩ := rs_slice R17
  repeat' (first | simp -implicitDefEqProofs only [zG1,zG2,zG3,zG4,zG5,zG6,zG7,eq_self,resV,rval,X.val,binv,fillL,setR,↓reduceIte,Nat.reduceEqDiff,Nat.reduceAdd,Nat.reduceMul,Nat.reduceLeDiff,Nat.reduceLT,Nat.reduceSub,reduceCtorEq,zGp] | ((with_reducible refine rows_intro (fun _ hb => ?_)); try simp only [set_none, ne_eq] at hb) | ((with_reducible refine new_intro (fun _ hb => ?_)); try simp only [set_none, ne_eq] at hb) | (with_reducible refine draw_same ?_) | ((with_reducible refine gd_split ?_ (fun _ => ?_) (fun _ => ?_)); exact rfl) | ((with_reducible refine td_split ?_ (fun _ => ?_) (fun _ => ?_)); exact rfl) | (with_reducible refine c_split (fun _ => ?_) (fun _ => ?_)))
  refine crewNew_ok w0 _ _ V16 e16 rs V17 e17 L (f16.le l17) hn R17.fr hmL hLL (fun v0 v1 v2 v5 _ _ _ _ C18 l18 o18 _ => ?_)
  obtain ⟨U0, y0, U1, y1, U2, y2, U5, y5, rfl, rfl, rfl, rfl, -⟩ := o18.crR
  repeat' (first | simp -implicitDefEqProofs only [zG1,zG2,zG3,zG4,zG5,zG6,zG7,eq_self,resV,rval,X.val,binv,fillL,setR,↓reduceIte,Nat.reduceEqDiff,Nat.reduceAdd,Nat.reduceMul,Nat.reduceLeDiff,Nat.reduceLT,Nat.reduceSub,reduceCtorEq,zGp])
  refine new_intro (fun x15 hx15 => ?_)
  have l19' := (AHeap.le.refl C18).fresh hx15 ⟨crz, true, 62, 6⟩
  have k19' := Kn.same C18 x15 ⟨crz, true, 62, 6⟩
  generalize C18.set x15 _ = C19 at l19' k19' ⊢
  repeat' (first | simp -implicitDefEqProofs only [zG1,zG2,zG3,zG4,zG5,zG6,zG7,eq_self,resV,rval,X.val,binv,fillL,setR,↓reduceIte,Nat.reduceEqDiff,Nat.reduceAdd,Nat.reduceMul,Nat.reduceLeDiff,Nat.reduceLT,Nat.reduceSub,reduceCtorEq,zGp])
  refine st_own k19' (crc (newCrew rs L) U0 y0 U1 y1 U2 y2 U5 y5) rfl rfl (by simp) (by simp [ocI, ocS]) (fun C20 h20 k20 => ?_)
  simp only [setR, List.set_cons_zero, List.set_cons_succ] at k20
  have l20 : AHeap.le C18 C20 := h20.keep l19' (New.one hx15)
  have lz := l16.trans (l17.trans (l18.trans l20))
  have r620 := rd6 (k615.trans lz)
  have r1020 := rd6 (k1015.trans lz)
  have r1520 := rd6 k20
  have o320 := o315.trans lz
  have o1820 := o18.trans l20
  have w20 := w15.trans lz
  repeat' (first | simp -implicitDefEqProofs only [zG1,zG2,zG3,zG4,zG5,zG6,zG7,eq_self,resV,rval,X.val,binv,fillL,setR,↓reduceIte,Nat.reduceEqDiff,Nat.reduceAdd,Nat.reduceMul,Nat.reduceLeDiff,Nat.reduceLT,Nat.reduceSub,reduceCtorEq,zGp, r620, r1020, r1520, d6, bx, Bool.not_true, bne_self_eq_false] | ((with_reducible refine rows_intro (fun _ hb => ?_)); try simp only [set_none, ne_eq] at hb) | ((with_reducible refine new_intro (fun _ hb => ?_)); try simp only [set_none, ne_eq] at hb) | (with_reducible refine draw_same ?_) | ((with_reducible refine gd_split ?_ (fun _ => ?_) (fun _ => ?_)); exact rfl) | ((with_reducible refine td_split ?_ (fun _ => ?_) (fun _ => ?_)); exact rfl) | (with_reducible refine c_split (fun _ => ?_) (fun _ => ?_)) | (with_reducible refine eqCrew_ok w0 _ _ (newCrew rs L) U0 y0 U1 y1 U2 y2 U5 y5 P0 i0 P1 i1 P2 i2 P5 i5 o1820.rd o320.rd hb ?_) | (with_reducible refine heldCrew_ok w0 _ _ (newCrew rs L) _ _ _ _ _ _ _ _ 1 w20 hsz (by decide) (by decide) ?_))
  exact ret_same (h _)
namespace fnExactCrewNew
theorem lifted (os : Os) (started : os.Started) (H : Type) (enc : TypeId × Value → H) :
    ReturnsInHanded {} Try.checked os 7 .any (Rows.fnExactCrewNewSpec.pre6 enc Try.prog Try.f7 Rows.fnExactCrewNewRow.domain false) (Rows.fnExactCrewNewSpec.post enc Try.prog Try.f7 false true false false) := by
  refine returnsInHanded_of_change_sized (C := Try.checked) own started (by kernel_rfl) Try.func7
    (ChangeSpec.witness6 (enc := enc) (C := Try.checked) false ⟨#[], #[.slice none 0 0, .slice none 0 0], []⟩ 8 (by kernel_rfl) (by kernel_rfl) (by kernel_rfl) (by kernel_rfl)) ?_
  intro W base args ds gs before hval0 hW hcnd hsz0 _
  have hval : ∀ (j : Nat) t v, Try.f7.params[j]? = some t → args[j]? = some v → Value.okWide Try.prog W .any base t v := hval0
  have hW' := hW
  obtain ⟨p, q, hA0, hV, rfl, hfz, hnd⟩ := hW
  have hA : DataW.TrodAll enc Try.prog W 0 (fun _ => true) true Try.f7.params.toList args.toList ds p := hA0
  rw [Try.params7] at hA hval
  obtain ⟨v0, vs0, d0, ds0, p0, q0, hargs, rfl, rfl, h0, r0⟩ := trodAll_cons hA
  obtain ⟨v1, vs1, d1, ds1, p1, q1, rfl, rfl, rfl, h1, r1⟩ := trodAll_cons r0
  obtain ⟨rfl, rfl, rfl⟩ := trodAll_nil r1
  obtain rfl : args = #[v0, v1] := by cases args; simp_all
  obtain ⟨rfl, rfl⟩ := trodVars_none hV
  have k0 := h0
  have lt0 : ∀ x ∈ p0, x.block < W.heap.size := by obtain ⟨m, hm⟩ := k0; exact DataW.trod_lt m _ _ _ hm
  obtain ⟨a0, len0, cap0, rfl⟩ := okWide_slice Try.underlying35 (hval 0 35 v0 rfl rfl)
  obtain ⟨zs0, hl0, hm0, f0⟩ : ∃ zs : List Int, len0 = zs.length ∧ zs.length ≤ maxLen ∧ Fl (heapOf W) a0 (ints zs) := by
    obtain ⟨fuel, hf⟩ := h0
    obtain ⟨zs, A, c, e, h1, h2⟩ := open_irow Try.underlying35 Try.underlying3 (by kernel_rfl) _ _ _ hf
    have e' : [Value.slice a0 len0 cap0] = [Value.slice A zs.length c] := e
    simp only [List.cons.injEq, Value.slice.injEq, and_true] at e'
    obtain ⟨rfl, rfl, rfl⟩ := e'
    exact ⟨zs, rfl, h1, h2⟩
  subst hl0
  have k1 := h1
  have lt1 : ∀ x ∈ p1, x.block < W.heap.size := by obtain ⟨m, hm⟩ := k1; exact DataW.trod_lt m _ _ _ hm
  obtain ⟨a1, len1, cap1, rfl⟩ := okWide_slice Try.underlying52 (hval 1 52 v1 rfl rfl)
  obtain ⟨L1, hl1, hm1, hn1, f1⟩ : ∃ L : List (List Qd), len1 = L.length ∧ L.length ≤ maxLen ∧ (∀ x ∈ L, x.length ≤ maxLen) ∧ FR (heapOf W) a1 L := by
    obtain ⟨fuel, hf⟩ := h1
    obtain ⟨L, A, c, e, h1, h2, h3⟩ := open_rows Try.underlying52 (by kernel_rfl) (open_qrow Try.underlying82 Try.underlying149 (by kernel_rfl) (by kernel_rfl) Try.underlying3 ⟨rfl, rfl, rfl, rfl, rfl⟩) _ _ _ hf
    have e' : [Value.slice a1 len1 cap1] = [Value.slice A L.length c] := e
    simp only [List.cons.injEq, Value.slice.injEq, and_true] at e'
    obtain ⟨rfl, rfl, rfl⟩ := e'
    exact ⟨L, rfl, h1, h2, h3⟩
  subst hl1
  refine (calls_true (lawCrewNew_ok W (heapOf W) _ a0 cap0 zs0 a1 cap1 L1 f0 hm0 f1 hm1 hn1 (fun _ => rfl)) (sat_heap W)).mono fun e W' ⟨he, bel⟩ => ?_
  subst he
  exact ⟨_, rfl, _, _, _, [], _, [], hW', trodAll_mk1 (shut_bool Try.underlying4 _), (trodAll_cons_mk (Below.trod laidOut (by kernel_rfl) (of_decide_eq_true (by kernel_rfl)) k0 bel lt0) (trodAll_cons_mk (Below.trod laidOut (by kernel_rfl) (of_decide_eq_true (by kernel_rfl)) k1 bel lt1) trodAll_mk0)), rfl, bel.frame _, fun h => by cases h⟩
theorem over : Rows.fnExactCrewNewRow.holds Try.pinned (OpenSpec.ofChange Rows.fnExactCrewNewSpec) :=
  OpenClaim.holds_of_wide 7 Try.f7 rfl rfl rfl rfl rfl rfl rfl ⟨rfl, rfl, rfl, rfl, rfl⟩ rfl rfl rfl rfl rfl (by kernel_rfl) Try.func7 (by kernel_rfl)
    (of_decide_eq_true (by kernel_rfl)) (by unfold Func.isWrapper; first | (rw [if_pos (by decide +kernel)]; kernel_rfl) | (rw [if_neg (by decide +kernel)]; exact ⟨rfl, rfl⟩))
    (fun os started H enc _ => lifted os started H enc)
end fnExactCrewNew
theorem fnExactCrewNew_holds : Rows.FnExactCrewNewSaid := fnExactCrewNew.over
#print axioms fnExactCrewNew_holds
end Go.Proofs.Ytfjhjfddgdokgaa
