/- The statement FnExactCrewValid holds for all arguments; part 2 of the texts that show it. No further condition. -/
import Derived.Test.YtfjhjfddgdokgaaFnExactCrewValidP1
namespace Go.Proofs.Ytfjhjfddgdokgaa
set_option linter.all false
open Go Go.RowKit
set_option maxRecDepth 100000
variable (w0 : World)
abbrev crc (c : Cr) (A0 : Option Addr) (c0 : Nat) (A1 : Option Addr) (c1 : Nat) (A2 : Option Addr) (c2 : Nat) (A5 : Option Addr) (c5 : Nat) : List Value :=
  [.slice A0 c.codes.length c0, .slice A1 c.threads.length c1, .slice A2 c.boxes.length c2, .int .i64 c.turn, .int .i64 c.last, .slice A5 c.log.length c5]
abbrev crv (c : Cr) (A0 : Option Addr) (c0 : Nat) (A1 : Option Addr) (c1 : Nat) (A2 : Option Addr) (c2 : Nat) (A5 : Option Addr) (c5 : Nat) : Value :=
  .agg #[.slice A0 c.codes.length c0, .slice A1 c.threads.length c1, .slice A2 c.boxes.length c2, .int .i64 c.turn, .int .i64 c.last, .slice A5 c.log.length c5]
structure CrR (H : AHeap) (c : Cr) (A0 A1 A2 A5 : Option Addr) : Prop where
  f0 : FR H A0 c.codes
  f1 : FP H A1 0 1 c.threads
  f2 : FP H A2 1 0 c.boxes
  f5 : Fl H A5 (ints c.log)
theorem CrR.le {H H' : AHeap} {c : Cr} {A0 A1 A2 A5 : Option Addr} (h : CrR H c A0 A1 A2 A5) (l : AHeap.le H H') : CrR H' c A0 A1 A2 A5 := ⟨h.f0.le l, h.f1.le l, h.f2.le l, h.f5.le l⟩
/-- All its rows are at most so long. -/
structure CrB (m : Nat) (c : Cr) : Prop where
  n0 : c.codes.length ≤ m
  m0 : ∀ x ∈ c.codes, x.length ≤ m
  n1 : c.threads.length ≤ m
  m1 : ∀ x ∈ c.threads, x.1.length ≤ m
  n2 : c.boxes.length ≤ m
  m2 : ∀ x ∈ c.boxes, x.1.length ≤ m
  n5 : c.log.length ≤ m
def Cr.size (c : Cr) : Nat := (c.codes.length + sumL c.codes) + (c.threads.length + sumP c.threads) + (c.boxes.length + sumP c.boxes) + c.log.length
theorem sumL_at {L : List (List Qd)} {x : List Qd} (h : x ∈ L) : x.length ≤ sumL L := by
  obtain ⟨i, hi, rfl⟩ := List.getElem_of_mem h
  have := sumL_step hi
  have := sumL_le L (i + 1)
  omega
theorem sumP_at {L : List (List Int × Int)} {x : List Int × Int} (h : x ∈ L) : x.1.length ≤ sumP L := by
  obtain ⟨i, hi, rfl⟩ := List.getElem_of_mem h
  have := sumP_step hi
  have := sumP_le L (i + 1)
  omega
theorem CrB.of_size {m : Nat} {c : Cr} (h : c.size ≤ m) : CrB m c := by
  simp only [Cr.size] at h
  exact ⟨by omega, fun x hx => by have := sumL_at hx; omega, by omega, fun x hx => by have := sumP_at hx; omega, by omega, fun x hx => by have := sumP_at hx; omega, by omega⟩
section
variable (H : AHeap) (K : Value → AHeap → Prop) (c : Cr) (A0 : Option Addr) (c0 : Nat) (A1 : Option Addr) (c1 : Nat) (A2 : Option Addr) (c2 : Nat) (A5 : Option Addr) (c5 : Nat)
theorem kn6 {C : AHeap} {x : Nat} {t : TypeId} {o : Bool} {n : Nat} {v0 v1 v2 v3 v4 v5 : Value} (k : Kn C x ⟨[v0, v1, v2, v3, v4, v5], o, t, n⟩) :
    C.cell (some ⟨x, 0, none⟩) = some v0 ∧ C.cell (some ⟨x, 1, none⟩) = some v1 ∧ C.cell (some ⟨x, 2, none⟩) = some v2 ∧ C.cell (some ⟨x, 3, none⟩) = some v3 ∧ C.cell (some ⟨x, 4, none⟩) = some v4 ∧ C.cell (some ⟨x, 5, none⟩) = some v5 :=
  ⟨k.cell (j := 0) rfl, k.cell (j := 1) rfl, k.cell (j := 2) rfl, k.cell (j := 3) rfl, k.cell (j := 4) rfl, k.cell (j := 5) rfl⟩
theorem szCrew_ok (hc : CrR H c A0 A1 A2 A5) (hb : CrB maxLen c) (l : Int) (h2 : 0 ≤ l) (h3 : l ≤ 4611686018427387904) (h : K (.int .i64 (if l < c.size then -1 else l - c.size)) H) : ACalls Try.prog w0 32 [crv c A0 c0 A1 c1 A2 c2 A5 c5, .int .i64 l] H K := by
  have d1 : decide ((-1 : Int) < 0) = true := by decide
  refine acalls_of_sx mix Try.func32 of32 (by simp [ir32]) ?_; rw [ir32]; (try delta qT qI qC qO qM qG)
  repeat' (first | simp -implicitDefEqProofs only [zG1,zG2,zG3,zG4,zG5,zG6,zG7,eq_self,resV,rval,X.val,binv,fillL,setR,↓reduceIte,Nat.reduceEqDiff,Nat.reduceAdd,Nat.reduceMul,Nat.reduceLeDiff,Nat.reduceLT,Nat.reduceSub,reduceCtorEq,zGq])
  refine new_intro (fun x2 hx2 => ?_)
  have l1 := (AHeap.le.refl H).fresh hx2 ⟨crc c A0 c0 A1 c1 A2 c2 A5 c5, true, 56, 6⟩
  have k1 := Kn.same H x2 ⟨crc c A0 c0 A1 c1 A2 c2 A5 c5, true, 56, 6⟩
  generalize H.set x2 _ = C at l1 k1 ⊢
  have q := kn6 k1
  have hc' := hc.le l1
  by_cases e0 : l < ((c.codes.length : Int) + (sumL c.codes : Int))
  · have e0' := eq_true e0
    repeat' (first | simp -implicitDefEqProofs only [zG1,zG2,zG3,zG4,zG5,zG6,zG7,eq_self,resV,rval,X.val,binv,fillL,setR,↓reduceIte,Nat.reduceEqDiff,Nat.reduceAdd,Nat.reduceMul,Nat.reduceLeDiff,Nat.reduceLT,Nat.reduceSub,reduceCtorEq,zGq, q, d1, e0', if_true] | (with_reducible refine szQuadSS_ok _ _ _ A0 c0 _ hc'.f0 hb.n0 hb.m0 l h2 h3 ?_))
    exact ⟨H, l1, ki h (if_pos (show l < (c.size : Int) by simp only [Cr.size]; omega)).symm⟩
  have e0' := eq_false e0
  have dA : decide (l - ((c.codes.length : Int) + (sumL c.codes : Int)) < 0) = false := by simp; omega
  generalize hL1 : l - ((c.codes.length : Int) + (sumL c.codes : Int)) = lA at dA
  by_cases e1 : lA < ((c.threads.length : Int) + (sumP c.threads : Int))
  · have e1' := eq_true e1
    repeat' (first | simp -implicitDefEqProofs only [zG1,zG2,zG3,zG4,zG5,zG6,zG7,eq_self,resV,rval,X.val,binv,fillL,setR,↓reduceIte,Nat.reduceEqDiff,Nat.reduceAdd,Nat.reduceMul,Nat.reduceLeDiff,Nat.reduceLT,Nat.reduceSub,reduceCtorEq,zGq, q, d1, dA, hL1, e0', e1', if_true, if_false] | (with_reducible refine szQuadSS_ok _ _ _ A0 c0 _ hc'.f0 hb.n0 hb.m0 l h2 h3 ?_) | (with_reducible refine szThreadS_ok _ _ _ A1 c1 _ hc'.f1 hb.n1 hb.m1 lA (by omega) (by omega) ?_))
    exact ⟨H, l1, ki h (if_pos (show l < (c.size : Int) by simp only [Cr.size]; omega)).symm⟩
  have e1' := eq_false e1
  have dB : decide (lA - ((c.threads.length : Int) + (sumP c.threads : Int)) < 0) = false := by simp; omega
  generalize hL2 : lA - ((c.threads.length : Int) + (sumP c.threads : Int)) = lB at dB
  by_cases e2 : lB < ((c.boxes.length : Int) + (sumP c.boxes : Int))
  · have e2' := eq_true e2
    repeat' (first | simp -implicitDefEqProofs only [zG1,zG2,zG3,zG4,zG5,zG6,zG7,eq_self,resV,rval,X.val,binv,fillL,setR,↓reduceIte,Nat.reduceEqDiff,Nat.reduceAdd,Nat.reduceMul,Nat.reduceLeDiff,Nat.reduceLT,Nat.reduceSub,reduceCtorEq,zGq, q, d1, dA, dB, hL1, hL2, e0', e1', e2', if_true, if_false] | (with_reducible refine szQuadSS_ok _ _ _ A0 c0 _ hc'.f0 hb.n0 hb.m0 l h2 h3 ?_) | (with_reducible refine szThreadS_ok _ _ _ A1 c1 _ hc'.f1 hb.n1 hb.m1 lA (by omega) (by omega) ?_) | (with_reducible refine szBoxS_ok _ _ _ A2 c2 _ hc'.f2 hb.n2 hb.m2 lB (by omega) (by omega) ?_))
    exact ⟨H, l1, ki h (if_pos (show l < (c.size : Int) by simp only [Cr.size]; omega)).symm⟩
  have e2' := eq_false e2
  have dC : decide (lB - ((c.boxes.length : Int) + (sumP c.boxes : Int)) < 0) = false := by simp; omega
  generalize hL3 : lB - ((c.boxes.length : Int) + (sumP c.boxes : Int)) = lC at dC
  by_cases e3 : lC < (c.log.length : Int)
  · have e3' := eq_true e3
    repeat' (first | simp -implicitDefEqProofs only [zG1,zG2,zG3,zG4,zG5,zG6,zG7,eq_self,resV,rval,X.val,binv,fillL,setR,↓reduceIte,Nat.reduceEqDiff,Nat.reduceAdd,Nat.reduceMul,Nat.reduceLeDiff,Nat.reduceLT,Nat.reduceSub,reduceCtorEq,zGq, q, d1, dA, dB, dC, hL1, hL2, hL3, e0', e1', e2', e3', if_true, if_false] | (with_reducible refine szQuadSS_ok _ _ _ A0 c0 _ hc'.f0 hb.n0 hb.m0 l h2 h3 ?_) | (with_reducible refine szThreadS_ok _ _ _ A1 c1 _ hc'.f1 hb.n1 hb.m1 lA (by omega) (by omega) ?_) | (with_reducible refine szBoxS_ok _ _ _ A2 c2 _ hc'.f2 hb.n2 hb.m2 lB (by omega) (by omega) ?_) | (with_reducible refine szIntS_ok _ _ _ A5 _ c5 lC hb.n5 (by omega) (by omega) ?_))
    exact ⟨H, l1, ki h (if_pos (show l < (c.size : Int) by simp only [Cr.size]; omega)).symm⟩
  have e3' := eq_false e3
  have dD : decide (lC - (c.log.length : Int) < 0) = false := by simp; omega
  have hD : lC - (c.log.length : Int) = l - (((c.codes.length + sumL c.codes) + (c.threads.length + sumP c.threads) + (c.boxes.length + sumP c.boxes) + c.log.length : Nat) : Int) := by omega
  repeat' (first | simp -implicitDefEqProofs only [zG1,zG2,zG3,zG4,zG5,zG6,zG7,eq_self,resV,rval,X.val,binv,fillL,setR,↓reduceIte,Nat.reduceEqDiff,Nat.reduceAdd,Nat.reduceMul,Nat.reduceLeDiff,Nat.reduceLT,Nat.reduceSub,reduceCtorEq,zGq, q, dA, dB, dC, dD, hL1, hL2, hL3, e0', e1', e2', e3', if_false] | (with_reducible refine szQuadSS_ok _ _ _ A0 c0 _ hc'.f0 hb.n0 hb.m0 l h2 h3 ?_) | (with_reducible refine szThreadS_ok _ _ _ A1 c1 _ hc'.f1 hb.n1 hb.m1 lA (by omega) (by omega) ?_) | (with_reducible refine szBoxS_ok _ _ _ A2 c2 _ hc'.f2 hb.n2 hb.m2 lB (by omega) (by omega) ?_) | (with_reducible refine szIntS_ok _ _ _ A5 _ c5 lC hb.n5 (by omega) (by omega) ?_))
  exact ⟨H, l1, ki h ((if_neg (show ¬ l < (c.size : Int) by simp only [Cr.size]; omega)).trans (by simp only [Cr.size]; omega)).symm⟩
theorem eqCrew_ok (B0 : Option Addr) (e0 : Nat) (B1 : Option Addr) (e1 : Nat) (B2 : Option Addr) (e2 : Nat) (B5 : Option Addr) (e5 : Nat) (hc : CrR H c A0 A1 A2 A5) (hd : CrR H c B0 B1 B2 B5) (hb : CrB 1048576 c) (h : K (.bool true) H) :
    ACalls Try.prog w0 36 [crv c A0 c0 A1 c1 A2 c2 A5 c5, crv c B0 e0 B1 e1 B2 e2 B5 e5] H K := by
  refine acalls_of_sx mix Try.func36 of36 (by simp [ir36]) ?_; rw [ir36]; (try delta qT qI qC qO qM qG)
  repeat' (first | simp -implicitDefEqProofs only [zG1,zG2,zG3,zG4,zG5,zG6,zG7,eq_self,resV,rval,X.val,binv,fillL,setR,↓reduceIte,Nat.reduceEqDiff,Nat.reduceAdd,Nat.reduceMul,Nat.reduceLeDiff,Nat.reduceLT,Nat.reduceSub,reduceCtorEq,zGq])
  refine new_intro (fun x2 hx2 => ?_)
  repeat' (first | simp -implicitDefEqProofs only [zG1,zG2,zG3,zG4,zG5,zG6,zG7,eq_self,resV,rval,X.val,binv,fillL,setR,↓reduceIte,Nat.reduceEqDiff,Nat.reduceAdd,Nat.reduceMul,Nat.reduceLeDiff,Nat.reduceLT,Nat.reduceSub,reduceCtorEq,zGq])
  refine new_intro (fun x3 hx3 => ?_)
  simp only [set_none, ne_eq] at hx3
  have l1 := ((AHeap.le.refl H).fresh hx2 ⟨crc c A0 c0 A1 c1 A2 c2 A5 c5, true, 62, 6⟩).fresh (set_none.2 hx3) ⟨crc c B0 e0 B1 e1 B2 e2 B5 e5, true, 62, 6⟩
  have k2 : Kn ((H.set x2 ⟨crc c A0 c0 A1 c1 A2 c2 A5 c5, true, 62, 6⟩).set x3 ⟨crc c B0 e0 B1 e1 B2 e2 B5 e5, true, 62, 6⟩) x2 ⟨crc c A0 c0 A1 c1 A2 c2 A5 c5, true, 62, 6⟩ := (Kn.same _ _ _).set (fun e => hx3.1 e.symm) _
  have k3 := Kn.same (H.set x2 ⟨crc c A0 c0 A1 c1 A2 c2 A5 c5, true, 62, 6⟩) x3 ⟨crc c B0 e0 B1 e1 B2 e2 B5 e5, true, 62, 6⟩
  generalize (H.set x2 _).set x3 _ = C at l1 k2 k3 ⊢
  have q2 := kn6 k2
  have q3 := kn6 k3
  have hc' := hc.le l1
  have hd' := hd.le l1
  have n5 := hb.n5
  repeat' (first | simp -implicitDefEqProofs only [zG1,zG2,zG3,zG4,zG5,zG6,zG7,eq_self,resV,rval,X.val,binv,fillL,setR,↓reduceIte,Nat.reduceEqDiff,Nat.reduceAdd,Nat.reduceMul,Nat.reduceLeDiff,Nat.reduceLT,Nat.reduceSub,reduceCtorEq,zGq, q2, q3, bne_self_eq_false, decide_true] | (with_reducible refine eqQuadSS_ok _ _ _ A0 B0 c0 e0 _ hc'.f0 hd'.f0 hb.n0 hb.m0 ?_) | (with_reducible refine eqThreadS_ok _ _ _ A1 B1 c1 e1 _ hc'.f1 hd'.f1 hb.n1 hb.m1 ?_) | (with_reducible refine eqBoxS_ok _ _ _ A2 B2 c2 e2 _ hc'.f2 hd'.f2 hb.n2 hb.m2 ?_) | (with_reducible refine eqIntS_ok _ _ _ A5 B5 c5 e5 _ _ hc'.f5 hd'.f5 (by omega) ?_))
  exact ⟨H, l1, h⟩
end
end Go.Proofs.Ytfjhjfddgdokgaa
namespace Go.Proofs.Ytfjhjfddgdokgaa
set_option linter.all false
open Go Go.RowKit Go.Joins Go.ChangeShapes Go.WideShapes Go.ChangeAt Go.Deep
set_option linter.unusedVariables false
set_option maxRecDepth 100000
section
variable {H : Type} {enc : TypeId × Value → H} {P : Program} {w : World} {base : Nat} {spare : Nat → Bool} {held : Bool}
theorem open_qrow {t e u : TypeId} {f0 f1 f2 f3 f4 : Field} (ht : P.underlying t = some (.slice e)) (he : P.underlying e = some (.struct #[f0, f1, f2, f3, f4])) (hone : oneCellFields P #[f0, f1, f2, f3, f4] = true) (hC : P.cellsOf e = 5)
    (hu : P.underlying u = some (.int .i64)) (hf : f0.type = u ∧ f1.type = u ∧ f2.type = u ∧ f3.type = u ∧ f4.type = u) (fuel : Nat) (cs : List Value) (x : DataW H × List MemPlace) (h : DataW.trod enc P w base spare held fuel t cs = some x) : ∃ qs : List Qd, QuadsR w qs cs := by
  have main : ∀ (a : Option Addr) (len cap : Nat), cs = [.slice a len cap] → ∃ qs : List Qd, QuadsR w qs cs := fun a len cap e => by
    obtain ⟨qs, rfl, hm, hfl⟩ := open_quads (a := a) (len := len) (cap := cap) (d := x.1) (p := x.2) ht he hone hC hu hf ⟨fuel, by subst e; simpa [Value.cells] using h⟩
    exact ⟨qs, a, cap, e, hm, hfl⟩
  rcases DataW.trod_slice ht h with ⟨hc, _⟩ | ⟨a, len, cap, elems, rest, m, hfm, hc, _⟩
  · exact main _ _ _ hc
  · exact main _ _ _ hc
abbrev RowsR (w : World) (L : List (List Qd)) (cs : List Value) : Prop := ∃ A c, cs = [.slice A L.length c] ∧ L.length ≤ maxLen ∧ (∀ x ∈ L, x.length ≤ maxLen) ∧ FR (heapOf w) A L
abbrev PairsR (w : World) (o u : Nat) (ts : List (List Int × Int)) (cs : List Value) : Prop := ∃ A c, cs = [.slice A ts.length c] ∧ ts.length ≤ maxLen ∧ (∀ x ∈ ts, x.1.length ≤ maxLen) ∧ FP (heapOf w) A o u ts
theorem open_rows {s t : TypeId} (hs : P.underlying s = some (.slice t)) (hC : P.cellsOf t = 1) (op : ∀ (fuel : Nat) (cs : List Value) (x : DataW H × List MemPlace), DataW.trod enc P w base spare held fuel t cs = some x → ∃ qs : List Qd, QuadsR w qs cs)
    (fuel : Nat) (cs : List Value) (x : DataW H × List MemPlace) (h : DataW.trod enc P w base spare held fuel s cs = some x) : ∃ L : List (List Qd), RowsR w L cs := by
  obtain ⟨L, A, c, e, hm, hr⟩ := open_row hs hC (QuadsR w) op h
  refine ⟨L, A, c, e, hm, fun x hx => ?_, fun i hi => ?_⟩
  · obtain ⟨i, hi, rfl⟩ := List.getElem_of_mem hx
    obtain ⟨_, vs, ⟨_, _, _, hm', _⟩, _, _⟩ := hr i hi
    exact hm'
  · obtain ⟨hA, vs, ⟨A', c', rfl, hm', hfl⟩, hl, hc⟩ := hr i hi
    have := hc 0 (by simp)
    rw [Nat.mul_one, Nat.add_zero] at this
    exact ⟨hA, A', c', this, hfl⟩
theorem open_pairs {o u : Nat} (hou : (o = 0 ∧ u = 1) ∨ (o = 1 ∧ u = 0)) {s t : TypeId} (hs : P.underlying s = some (.slice t)) (hC : P.cellsOf t = 2) (op : ∀ (fuel : Nat) (cs : List Value) (x : DataW H × List MemPlace), DataW.trod enc P w base spare held fuel t cs = some x → ∃ t : List Int × Int, PairR w o t cs)
    (fuel : Nat) (cs : List Value) (x : DataW H × List MemPlace) (h : DataW.trod enc P w base spare held fuel s cs = some x) : ∃ ts : List (List Int × Int), PairsR w o u ts cs := by
  obtain ⟨L, A, c, e, hm, hr⟩ := open_row hs hC (PairR w o) op h
  refine ⟨L, A, c, e, hm, fun x hx => ?_, fun i hi => ?_⟩
  · obtain ⟨i, hi, rfl⟩ := List.getElem_of_mem hx
    obtain ⟨_, vs, ⟨_, _, _, hm', _⟩, _, _⟩ := hr i hi
    exact hm'
  · obtain ⟨hA, vs, ⟨A', c', e', hm', hfl⟩, hl, hc⟩ := hr i hi
    subst e'
    have h0 := hc 0 (by omega)
    have h1 := hc 1 (by omega)
    rw [Nat.add_zero] at h0
    rcases hou with ⟨rfl, rfl⟩ | ⟨rfl, rfl⟩
    · exact ⟨hA, A', c', by rw [Nat.add_zero]; exact h0, h1, hfl⟩
    · exact ⟨hA, A', c', h1, by rw [Nat.add_zero]; exact h0, hfl⟩
theorem open_crew {t : TypeId} {f0 f1 f2 f3 f4 f5 : Field} (ht : P.underlying t = some (.struct #[f0, f1, f2, f3, f4, f5])) (ho : f0.offset = 0 ∧ f1.offset = 1 ∧ f2.offset = 2 ∧ f3.offset = 3 ∧ f4.offset = 4 ∧ f5.offset = 5)
    (hC : P.cellsOf t = 6) (hk : P.cellsOf f0.type = 1 ∧ P.cellsOf f1.type = 1 ∧ P.cellsOf f2.type = 1 ∧ P.cellsOf f3.type = 1 ∧ P.cellsOf f4.type = 1 ∧ P.cellsOf f5.type = 1)
    (op0 : ∀ (fuel : Nat) (cs : List Value) (x : DataW H × List MemPlace), DataW.trod enc P w base spare held fuel f0.type cs = some x → ∃ L : List (List Qd), RowsR w L cs)
    (op1 : ∀ (fuel : Nat) (cs : List Value) (x : DataW H × List MemPlace), DataW.trod enc P w base spare held fuel f1.type cs = some x → ∃ ts : List (List Int × Int), PairsR w 0 1 ts cs)
    (op2 : ∀ (fuel : Nat) (cs : List Value) (x : DataW H × List MemPlace), DataW.trod enc P w base spare held fuel f2.type cs = some x → ∃ ts : List (List Int × Int), PairsR w 1 0 ts cs)
    (op3 : ∀ (fuel : Nat) (cs : List Value) (x : DataW H × List MemPlace), DataW.trod enc P w base spare held fuel f3.type cs = some x → ∃ n : Int, cs = [.int .i64 n])
    (op4 : ∀ (fuel : Nat) (cs : List Value) (x : DataW H × List MemPlace), DataW.trod enc P w base spare held fuel f4.type cs = some x → ∃ n : Int, cs = [.int .i64 n])
    (op5 : ∀ (fuel : Nat) (cs : List Value) (x : DataW H × List MemPlace), DataW.trod enc P w base spare held fuel f5.type cs = some x → ∃ zs : List Int, ∃ A c, cs = [.slice A zs.length c] ∧ zs.length ≤ maxLen ∧ Fl (heapOf w) A (ints zs))
    {fuel : Nat} {cs : List Value} {x : DataW H × List MemPlace} (h : DataW.trod enc P w base spare held fuel t cs = some x) :
    ∃ (c : Cr) (A0 : Option Addr) (c0 : Nat) (A1 : Option Addr) (c1 : Nat) (A2 : Option Addr) (c2 : Nat) (A5 : Option Addr) (c5 : Nat), cs = crc c A0 c0 A1 c1 A2 c2 A5 c5 ∧ CrR (heapOf w) c A0 A1 A2 A5 ∧ CrB maxLen c := by
  obtain ⟨xs, n, hfn, _, hlen, hxl, hg⟩ := DataW.trod_struct ht h
  rw [hC] at hlen
  match cs, hlen with
  | [v0, v1, v2, v3, v4, v5], _ =>
    match xs, hxl with
    | [y0, y1, y2, y3, y4, y5], _ =>
      have h0 := hg 0 f0 rfl
      have h1 := hg 1 f1 rfl
      have h2 := hg 2 f2 rfl
      have h3 := hg 3 f3 rfl
      have h4 := hg 4 f4 rfl
      have h5 := hg 5 f5 rfl
      rw [ho.1, hk.1] at h0
      rw [ho.2.1, hk.2.1] at h1
      rw [ho.2.2.1, hk.2.2.1] at h2
      rw [ho.2.2.2.1, hk.2.2.2.1] at h3
      rw [ho.2.2.2.2.1, hk.2.2.2.2.1] at h4
      rw [ho.2.2.2.2.2, hk.2.2.2.2.2] at h5
      simp only [List.drop_zero, List.drop_succ_cons, List.take_succ_cons, List.take_zero, List.getElem?_cons_zero, List.getElem?_cons_succ] at h0 h1 h2 h3 h4 h5
      obtain ⟨L, A0, c0, e0, m0, n0, r0⟩ := op0 _ _ _ h0
      obtain ⟨ts, A1, c1, e1, m1, n1, r1⟩ := op1 _ _ _ h1
      obtain ⟨bs, A2, c2, e2, m2, n2, r2⟩ := op2 _ _ _ h2
      obtain ⟨z3, e3⟩ := op3 _ _ _ h3
      obtain ⟨z4, e4⟩ := op4 _ _ _ h4
      obtain ⟨zs, A5, c5, e5, m5, r5⟩ := op5 _ _ _ h5
      simp only [List.cons.injEq, and_true] at e0 e1 e2 e3 e4 e5
      subst e0 e1 e2 e3 e4 e5
      exact ⟨⟨L, ts, bs, z3, z4, zs⟩, A0, c0, A1, c1, A2, c2, A5, c5, rfl, ⟨r0, r1, r2, r5⟩, ⟨m0, n0, m1, n1, m2, n2, m5⟩⟩
end
end Go.Proofs.Ytfjhjfddgdokgaa
namespace Go.Proofs.Ytfjhjfddgdokgaa
set_option linter.all false
open Go Go.RowKit
/-- v is a row of the call's own, over H. -/
def Row (H C : AHeap) (t : TypeId) (sz : Nat) (v : Value) (n : Nat) (xs : List Value) : Prop := ∃ bs, AHeap.le H C ∧ New H bs ∧ Rw C t sz v n xs bs
section
variable {P : Program} {w0 : World} {K : Value → AHeap → Prop} {H H' B C C' C2 : AHeap} {t : TypeId} {sz n m b : Nat} {v : Value} {xs news : List Value}
theorem Row.le (h : Row H C t sz v n xs) (l : AHeap.le C C') : Row H C' t sz v n xs := by
  obtain ⟨bs, l0, nb, w⟩ := h
  exact ⟨bs, l0.trans l, nb, w.trans l⟩
theorem Row.fl (h : Row H C t sz v n xs) : ∃ A c, v = .slice A n c ∧ Fl C A xs := by
  obtain ⟨bs, l0, nb, w⟩ := h
  exact w.fl
theorem Row.fl' {A : Option Addr} {n' c : Nat} (h : Row H C t sz (.slice A n' c) n xs) : Fl C A xs ∧ n' = n := by
  obtain ⟨bs, l0, nb, w⟩ := h
  exact w.fl'
theorem Row.len (h : Row H C t sz v n xs) : xs.length = n * sz := by
  obtain ⟨bs, l0, nb, w⟩ := h
  exact w.len
theorem Row.nil_ (H : AHeap) (t : TypeId) (sz : Nat) : Row H H t sz (.slice none 0 0) 0 [] := ⟨[], .refl _, New.nil _, Rw.nil_ _ _ _⟩
/-- A row made by a literal. -/
theorem Row.lit (hb : H b = none) {c : Nat} (hc : c = n * sz) (hl : xs.length = n * sz) (hm : n ≤ maxLen) : Row H (H.set b ⟨xs, true, t, c⟩) t sz (.slice (some ⟨b, 0, none⟩) n n) n xs := by
  subst hc
  exact ⟨[b], (AHeap.le.refl H).fresh hb _, New.one hb, Rw.mk (Kn.same _ _ _) hl (Nat.le_refl _) hm⟩
/-- Append what can be read. -/
theorem Row.app {z : List Value} {bytes : Nat} {xa : Option Addr} {xc : Nat} (h : Row H C t z.length v n xs) (hf : Fl C xa news) (hl : news.length = m * z.length) (h1 : ∀ u ∈ news, u.oneCell' = true) (hm : n + m ≤ maxLen) (hB : (n + m) * bytes ≤ 140737488355328)
    (hK : ∀ v' C', Row H C' t z.length v' (n + m) (xs ++ news) → K v' C') : appK P w0 z t bytes v (.slice xa m xc) K C := by
  obtain ⟨bs, l, nb, w⟩ := h
  refine app_rw w hf hl h1 hm hB fun v' C' bs' hc hn hr => hK v' C' ⟨bs', hc.keep l nb, fun x hx => ?_, hr⟩
  rcases hn x hx with h | h
  · exact nb x h
  · exact l.none h
end
end Go.Proofs.Ytfjhjfddgdokgaa
namespace Go.Proofs.Ytfjhjfddgdokgaa
set_option linter.all false
open Go Go.RowKit
/-- What C' knows of the blocks that C does not know. -/
def AHeap.off (C' C : AHeap) : AHeap := fun x => if (C x).isSome then none else C' x
theorem off_at {C' C : AHeap} {x : Nat} (h : C x = none) : C'.off C x = C' x := by simp [AHeap.off, h]
section
variable {H C C' C1 C2 D : AHeap} {b x : Nat} {k : Blk} {bs bs' : List Nat}
theorem kn_off {k : Blk} (hx : H x = none) (hk : Kn C x k) : Kn (C.off H) x k := by
  obtain ⟨k1, h1, r⟩ := hk
  exact ⟨k1, by rw [off_at hx]; exact h1, r⟩
end
end Go.Proofs.Ytfjhjfddgdokgaa
namespace Go.Proofs.Ytfjhjfddgdokgaa
set_option linter.all false
open Go Go.RowKit
set_option maxRecDepth 100000
/-- The row of numbers stands at place o of a pair, the number at place u. -/
def OP (C : AHeap) (t' : TypeId) (o u : Nat) (v : Value) (ts : List (List Int × Int)) (bs : List Nat) : Prop :=
  ∃ (vs : List Value) (ob : List Nat) (bss : List (List Nat)), Rw C t' 2 v ts.length vs ob ∧ (∀ x, x ∈ ob → x ∈ bs) ∧
    (∀ (i : Nat) (ib : List Nat), bss[i]? = some ib → (∀ x, x ∈ ib → x ∈ bs ∧ ¬ x ∈ ob) ∧ ∀ (j : Nat) (jb : List Nat), bss[j]? = some jb → i ≠ j → ∀ x, x ∈ ib → ¬ x ∈ jb) ∧
    ∀ (i : Nat) (hi : i < ts.length), ∃ x ib, vs[i * 2 + o]? = some x ∧ vs[i * 2 + u]? = some (.int .i64 ts[i].2) ∧ bss[i]? = some ib ∧ Rw C 3 1 x ts[i].1.length (ints ts[i].1) ib
section
variable {H C C' : AHeap} {t' : TypeId} {o u : Nat} {v : Value} {ts : List (List Int × Int)} {bs bs' : List Nat} {A : Option Addr} {m c : Nat}
theorem OP.trans (h : OP C t' o u v ts bs) (l : AHeap.le C C') : OP C' t' o u v ts bs := by
  obtain ⟨vs, ob, bss, h1, h2, h3, h4⟩ := h
  refine ⟨vs, ob, bss, h1.trans l, h2, h3, fun i hi => ?_⟩
  obtain ⟨x, ib, e1, e2, e3, e4⟩ := h4 i hi
  exact ⟨x, ib, e1, e2, e3, e4.trans l⟩
theorem OP.chg (h : OP C t' o u v ts bs) (hc : Chg C C' bs') (hd : ∀ b, b ∈ bs → ¬ b ∈ bs') : OP C' t' o u v ts bs := by
  obtain ⟨vs, ob, bss, h1, h2, h3, h4⟩ := h
  refine ⟨vs, ob, bss, h1.chg hc fun y hy => hd y (h2 y hy), h2, h3, fun i hi => ?_⟩
  obtain ⟨x, ib, e1, e2, e3, e4⟩ := h4 i hi
  exact ⟨x, ib, e1, e2, e3, e4.chg hc fun y hy => hd y ((h3 i ib e3).1 y hy).1⟩
theorem OP.slice (h : OP C t' o u v ts bs) : ∃ A c, v = .slice A ts.length c := by
  obtain ⟨vs, ob, bss, h1, _⟩ := h
  exact h1.slice
theorem OP.fp (h : OP C t' o u (.slice A m c) ts bs) : FP C A o u ts ∧ m = ts.length := by
  obtain ⟨vs, ob, bss, h1, h2, h3, h4⟩ := h
  obtain ⟨f, rfl⟩ := h1.fl'
  refine ⟨fun i hi => ?_, rfl⟩
  obtain ⟨x, ib, e1, e2, e3, e4⟩ := h4 i hi
  obtain ⟨A', c', rfl, fx⟩ := e4.fl
  exact ⟨f.is (i := i * 2 + o) (List.getElem?_eq_some_iff.1 e1).1, A', c', f _ _ e1, f _ _ e2, fx⟩
theorem OP.off (h : OP C t' o u v ts bs) (hn : New H bs) : OP (C.off H) t' o u v ts bs := by
  obtain ⟨vs, ob, bss, h1, h2, h3, h4⟩ := h
  have w : ∀ {t : TypeId} {sz : Nat} {v : Value} {n : Nat} {xs : List Value} {cs : List Nat}, Rw C t sz v n xs cs → (∀ y, y ∈ cs → y ∈ bs) → Rw (C.off H) t sz v n xs cs := fun h hs => by
    rcases h with h | ⟨b, cap, h1, rfl, h3, h4, h5, h6⟩
    · exact .inl h
    · exact .inr ⟨b, cap, h1, rfl, h3, h4, h5, kn_off (hn b (hs b (by simp))) h6⟩
  refine ⟨vs, ob, bss, w h1 h2, h2, h3, fun i hi => ?_⟩
  obtain ⟨x, ib, e1, e2, e3, e4⟩ := h4 i hi
  exact ⟨x, ib, e1, e2, e3, w e4 fun y hy => ((h3 i ib e3).1 y hy).1⟩
end
end Go.Proofs.Ytfjhjfddgdokgaa
namespace Go.Proofs.Ytfjhjfddgdokgaa
set_option linter.all false
open Go Go.RowKit
set_option maxRecDepth 100000
variable (w0 : World) (H : AHeap) (K : Value → AHeap → Prop)
theorem rw_kn {C : AHeap} {t : TypeId} {sz : Nat} {v : Value} {n : Nat} {xs : List Value} {bs : List Nat} (h : Rw C t sz v n xs bs) : ∀ y, y ∈ bs → C y ≠ none := fun y hy => by
  rcases h with ⟨_, _, _, rfl⟩ | ⟨bb, cap, _, rfl, _, _, _, kk⟩
  · simp at hy
  · simp at hy; subst hy; exact kk.ne
/-- The pairs made so far, in blocks of their own. -/
def OPk (H C : AHeap) (b : Nat) (o u : Nat) (ts : List (List Int × Int)) (k : Nat) (vs : List Value) (bf : Nat → List Nat) : Prop :=
  ∀ i (hi : i < ts.length), i < k → ∃ x, vs[i * 2 + o]? = some x ∧ vs[i * 2 + u]? = some (.int .i64 ts[i].2) ∧ Rw C 3 1 x ts[i].1.length (ints ts[i].1) (bf i) ∧ (∀ y, y ∈ bf i → H y = none ∧ ¬ y = b) ∧ ∀ j, j < i → ∀ y, y ∈ bf i → ¬ y ∈ bf j
theorem OPk.op {H C : AHeap} {b o u : Nat} {t' : TypeId} {ts : List (List Int × Int)} {vs : List Value} {bf : Nat → List Nat} (h : OPk H C b o u ts ts.length vs bf) (hk : Kn C b ⟨vs, true, t', ts.length * 2⟩) (hl : vs.length = ts.length * 2) (hm : ts.length ≤ maxLen) (hb : H b = none) :
    OP C t' o u (.slice (some ⟨b, 0, none⟩) ts.length ts.length) ts (b :: ((List.range ts.length).map bf).flatten) ∧ New H (b :: ((List.range ts.length).map bf).flatten) ∧ ∀ y, y ∈ (b :: ((List.range ts.length).map bf).flatten) → C y ≠ none := by
  have at_ : ∀ i ib, ((List.range ts.length).map bf)[i]? = some ib → i < ts.length ∧ ib = bf i := fun i ib e => by
    rw [List.getElem?_map] at e
    rcases Nat.lt_or_ge i ts.length with hi | hi
    · rw [List.getElem?_range hi] at e
      simp only [Option.map_some, Option.some.injEq] at e
      exact ⟨hi, e.symm⟩
    · rw [List.getElem?_eq_none (by simpa using hi)] at e
      simp at e
  have mem : ∀ y, y ∈ ((List.range ts.length).map bf).flatten → ∃ i, i < ts.length ∧ y ∈ bf i := fun y hy => by
    simp only [List.mem_flatten, List.mem_map, List.mem_range] at hy
    obtain ⟨l, ⟨i, hi, rfl⟩, hy⟩ := hy
    exact ⟨i, hi, hy⟩
  refine ⟨⟨vs, [b], (List.range ts.length).map bf, Rw.mk hk hl (Nat.le_refl _) hm, fun x hx => by simp only [List.mem_cons, List.not_mem_nil, or_false] at hx; subst hx; exact List.mem_cons_self, fun i ib e => ?_, fun i hi => ?_⟩, fun y hy => ?_, fun y hy => ?_⟩
  · obtain ⟨hi, rfl⟩ := at_ i ib e
    obtain ⟨x, e1, e2, e3, e4, e5⟩ := h i hi hi
    refine ⟨fun y hy => ⟨List.mem_cons_of_mem _ ?_, by simpa using (e4 y hy).2⟩, fun j jb e' hne => ?_⟩
    · simp only [List.mem_flatten, List.mem_map, List.mem_range]
      exact ⟨_, ⟨i, hi, rfl⟩, hy⟩
    · obtain ⟨hj, rfl⟩ := at_ j jb e'
      rcases Nat.lt_or_gt_of_ne hne with hlt | hgt
      · intro y hy hy'
        obtain ⟨_, _, _, _, _, e5'⟩ := h j hj hj
        exact e5' i hlt y hy' hy
      · exact e5 j hgt
  · obtain ⟨x, e1, e2, e3, e4, e5⟩ := h i hi hi
    exact ⟨x, bf i, e1, e2, by rw [List.getElem?_map, List.getElem?_range hi]; rfl, e3⟩
  · simp only [List.mem_cons] at hy
    rcases hy with rfl | hy
    · exact hb
    · obtain ⟨i, hi, hy⟩ := mem y hy
      obtain ⟨x, e1, e2, e3, e4, e5⟩ := h i hi hi
      exact (e4 y hy).1
  · simp only [List.mem_cons] at hy
    rcases hy with rfl | hy
    · exact hk.ne
    · obtain ⟨i, hi, hy⟩ := mem y hy
      obtain ⟨x, e1, e2, e3, e4, e5⟩ := h i hi hi
      exact rw_kn e3 y hy
theorem OPk.put {H C C5 C6 : AHeap} {b o u k : Nat} {ts : List (List Int × Int)} {vs vs' : List Value} {bf : Nat → List Nat} {x : Value} {bs5 : List Nat} (h : OPk H C b o u ts k vs bf) (hk : k < ts.length) (hle : AHeap.le H C) (l5 : AHeap.le C C5) (n5 : New C bs5) (w5 : Rw C5 3 1 x ts[k].1.length (ints ts[k].1) bs5) (hc : Chg C5 C6 [b]) (kb : C b ≠ none)
    (g : ∀ j, ¬ (k * 2 ≤ j ∧ j < k * 2 + 2) → vs'[j]? = vs[j]?) (g1 : vs'[k * 2 + o]? = some x) (g2 : vs'[k * 2 + u]? = some (.int .i64 ts[k].2)) (ho : o < 2) (hu : u < 2) : OPk H C6 b o u ts (k + 1) vs' (fun i => if i = k then bs5 else bf i) := by
  intro i hi hik
  have nb : ¬ b ∈ bs5 := fun hm => kb (n5 b hm)
  have e : (fun i => if i = k then bs5 else bf i) i = if i = k then bs5 else bf i := rfl
  by_cases hi' : i = k
  · subst hi'
    refine ⟨x, g1, g2, ?_, ?_, ?_⟩
    · simp only [if_true]
      exact w5.chg hc fun y hy e => nb (by simp at e; exact e ▸ hy)
    · simp only [if_true]
      exact fun y hy => ⟨n5.le hle y hy, fun e => nb (e ▸ hy)⟩
    · intro j hj y hy hy'
      simp only [if_true] at hy
      simp only [if_neg (show ¬ j = i by omega)] at hy'
      obtain ⟨x', e1, e2, e3, e4, e5⟩ := h j (by omega) hj
      exact rw_kn e3 y hy' (n5 y hy)
  · obtain ⟨x', e1, e2, e3, e4, e5⟩ := h i hi (by omega)
    refine ⟨x', by rw [g _ (by omega)]; exact e1, by rw [g _ (by omega)]; exact e2, ?_, ?_, ?_⟩
    · simp only [if_neg hi']
      exact (e3.trans l5).chg hc fun y hy e => (e4 y hy).2 (by simpa using e)
    · simp only [if_neg hi']
      exact e4
    · intro j hj y hy
      simp only [if_neg hi'] at hy
      simp only [if_neg (show ¬ j = k by omega)]
      exact e5 j hj y hy
theorem toThreadS_own (A : Option Addr) (c : Nat) (ts : List (List Int × Int)) (hx : FP H A 0 1 ts) (hn : ts.length ≤ 1048576) (hL : ∀ x ∈ ts, x.1.length ≤ 1048576) (h : ∀ v C bs, AHeap.le H C → New H bs → (∀ y, y ∈ bs → C y ≠ none) → OP C 125 0 1 v ts bs → K v C) :
    ACalls Try.prog w0 89 [.slice A ts.length c] H K := by
  refine acalls_of_sx mix Try.func89 of89 (by simp [ir89]) ?_; rw [ir89]; (try delta qT qI qC qO qM qG)
  repeat' (first | simp -implicitDefEqProofs only [zG1,zG2,zG3,zG4,zG5,zG6,zG7,eq_self,resV,rval,X.val,binv,fillL,setR,↓reduceIte,Nat.reduceEqDiff,Nat.reduceAdd,Nat.reduceMul,Nat.reduceLeDiff,Nat.reduceLT,Nat.reduceSub,reduceCtorEq,zGp] | ((with_reducible refine rows_intro (fun _ hb => ?_)); try simp only [set_none, ne_eq] at hb) | ((with_reducible refine new_intro (fun _ hb => ?_)); try simp only [set_none, ne_eq] at hb) | (with_reducible refine draw_same ?_) | ((with_reducible refine gd_split ?_ (fun _ => ?_) (fun _ => ?_)); exact rfl) | ((with_reducible refine td_split ?_ (fun _ => ?_) (fun _ => ?_)); exact rfl) | (with_reducible refine c_split (fun _ => ?_) (fun _ => ?_)))
  refine mk_intro (n := ts.length) (by omega) (by omega) (fun b hb => ?_)
  repeat' (first | simp -implicitDefEqProofs only [zG1,zG2,zG3,zG4,zG5,zG6,zG7,eq_self,resV,rval,X.val,binv,fillL,setR,↓reduceIte,Nat.reduceEqDiff,Nat.reduceAdd,Nat.reduceMul,Nat.reduceLeDiff,Nat.reduceLT,Nat.reduceSub,reduceCtorEq,zGp] | ((with_reducible refine rows_intro (fun _ hb => ?_)); try simp only [set_none, ne_eq] at hb) | ((with_reducible refine new_intro (fun _ hb => ?_)); try simp only [set_none, ne_eq] at hb) | (with_reducible refine draw_same ?_) | ((with_reducible refine gd_split ?_ (fun _ => ?_) (fun _ => ?_)); exact rfl) | ((with_reducible refine td_split ?_ (fun _ => ?_) (fun _ => ?_)); exact rfl) | (with_reducible refine c_split (fun _ => ?_) (fun _ => ?_)))
  have rl : ∀ n, (repl [.slice none 0 0, .int .i64 0] n).length = n * 2 := fun n => by
    induction n with
    | zero => rfl
    | succ n ih => simp only [repl, List.length_append, ih, List.length_cons, List.length_nil]; omega
  refine for_rule ts.length (fun k fr C => ∃ (vs : List Value) (bf : Nat → List Nat), AHeap.le H C ∧ Kn C b ⟨vs, true, 125, ts.length * 2⟩ ∧ vs.length = ts.length * 2 ∧ OPk H C b 0 1 ts k vs bf ∧ fr 0 = .slice A ts.length c ∧ fr 3 = .slice (some ⟨b, 0, none⟩) ts.length ts.length ∧ fr 4 = .int .i64 k)
    ⟨_, fun _ => [], (AHeap.le.refl H).fresh hb _, Kn.same _ _ _, rl _, fun i _ hi => absurd hi (Nat.not_lt_zero _), (by first | rfl | (simp only [put_at, ↓reduceIte, Nat.reduceEqDiff]; first | done | rfl | assumption) | simp [put_at, *]), (by first | rfl | (simp only [put_at, ↓reduceIte, Nat.reduceEqDiff]; first | done | rfl | assumption) | simp [put_at, *]), (by first | rfl | (simp only [put_at, ↓reduceIte, Nat.reduceEqDiff]; first | done | rfl | assumption) | simp [put_at, *])⟩ ?_ ?_
  · rintro k fr C hk ⟨vs, bf, hle, kn, hvl, hrow, f0, f3, f4⟩ N hN
    have g0 := lt_dec hk
    have g1 := rng hk
    have g2 := up1 hk (by omega)
    obtain ⟨q1, A', c', q2, fl⟩ := (hx.le hle).rd0 hk
    repeat' (first | simp -implicitDefEqProofs only [zG1,zG2,zG3,zG4,zG5,zG6,zG7,eq_self,resV,rval,X.val,binv,fillL,setR,↓reduceIte,Nat.reduceEqDiff,Nat.reduceAdd,Nat.reduceMul,Nat.reduceLeDiff,Nat.reduceLT,Nat.reduceSub,reduceCtorEq,zGp, f0, f3, f4, g0, g1, g2, q1, q2, adr_lit, Nat.zero_add] | ((with_reducible refine rows_intro (fun _ hb => ?_)); try simp only [set_none, ne_eq] at hb) | ((with_reducible refine new_intro (fun _ hb => ?_)); try simp only [set_none, ne_eq] at hb) | (with_reducible refine draw_same ?_) | ((with_reducible refine gd_split ?_ (fun _ => ?_) (fun _ => ?_)); exact rfl) | ((with_reducible refine td_split ?_ (fun _ => ?_) (fun _ => ?_)); exact rfl) | (with_reducible refine c_split (fun _ => ?_) (fun _ => ?_)))
    refine toThread_ok _ _ _ A' c' ts[k].1 ts[k].2 fl (hL _ (List.getElem_mem hk)) (fun v5 C5 bs5 l5 n5 w5 => ?_)
    obtain ⟨A5, c5, rfl, -⟩ := w5.fl
    have kn5 := kn.trans l5
    repeat' (first | simp -implicitDefEqProofs only [zG1,zG2,zG3,zG4,zG5,zG6,zG7,eq_self,resV,rval,X.val,binv,fillL,setR,↓reduceIte,Nat.reduceEqDiff,Nat.reduceAdd,Nat.reduceMul,Nat.reduceLeDiff,Nat.reduceLT,Nat.reduceSub,reduceCtorEq,zGp, f0, f3, f4, g1, adr_lit, Nat.zero_add] | ((with_reducible refine rows_intro (fun _ hb => ?_)); try simp only [set_none, ne_eq] at hb) | ((with_reducible refine new_intro (fun _ hb => ?_)); try simp only [set_none, ne_eq] at hb) | (with_reducible refine draw_same ?_) | ((with_reducible refine gd_split ?_ (fun _ => ?_) (fun _ => ?_)); exact rfl) | ((with_reducible refine td_split ?_ (fun _ => ?_) (fun _ => ?_)); exact rfl) | (with_reducible refine c_split (fun _ => ?_) (fun _ => ?_)))
    refine st_kn kn5 rfl rfl (by simp only; rw [hvl]; show k * 2 + 2 ≤ _; omega) (by simp [vcA, Value.oneCell']) (fun C6 hc6 ho6 k6 => ?_)
    have k6' : Kn C6 b ⟨setR vs (k * 2) [.slice A5 ts[k].1.length c5, .int .i64 ts[k].2], true, 125, ts.length * 2⟩ := k6
    have gs : ∀ j, (setR vs (k * 2) [.slice A5 ts[k].1.length c5, .int .i64 ts[k].2])[j]? = if k * 2 ≤ j ∧ j < k * 2 + 2 then ([.slice A5 ts[k].1.length c5, .int .i64 ts[k].2])[j - k * 2]? else vs[j]? := fun j => by
      rw [getElem?_setR _ _ _ _ (by rw [hvl]; show k * 2 + 2 ≤ _; omega)]; rfl
    repeat' (first | simp -implicitDefEqProofs only [zG1,zG2,zG3,zG4,zG5,zG6,zG7,eq_self,resV,rval,X.val,binv,fillL,setR,↓reduceIte,Nat.reduceEqDiff,Nat.reduceAdd,Nat.reduceMul,Nat.reduceLeDiff,Nat.reduceLT,Nat.reduceSub,reduceCtorEq,zGp, f0, f3, f4, g2] | ((with_reducible refine rows_intro (fun _ hb => ?_)); try simp only [set_none, ne_eq] at hb) | ((with_reducible refine new_intro (fun _ hb => ?_)); try simp only [set_none, ne_eq] at hb) | (with_reducible refine draw_same ?_) | ((with_reducible refine gd_split ?_ (fun _ => ?_) (fun _ => ?_)); exact rfl) | ((with_reducible refine td_split ?_ (fun _ => ?_) (fun _ => ?_)); exact rfl) | (with_reducible refine c_split (fun _ => ?_) (fun _ => ?_)))
    refine hN _ _ _ (.refl _) ⟨_, _, hc6.keep (hle.trans l5) (New.one hb), k6', ?_, hrow.put hk hle l5 n5 w5 hc6 kn.ne (fun j hj => ?_) ?_ ?_ (by decide) (by decide), (by first | rfl | (simp only [put_at, ↓reduceIte, Nat.reduceEqDiff]; first | done | rfl | assumption) | simp [put_at, *]), (by first | rfl | (simp only [put_at, ↓reduceIte, Nat.reduceEqDiff]; first | done | rfl | assumption) | simp [put_at, *]), (by first | rfl | (simp only [put_at, ↓reduceIte, Nat.reduceEqDiff]; first | done | rfl | assumption) | simp [put_at, *])⟩
    · rw [length_setR]; exact hvl
    · rw [gs, if_neg hj]
    · rw [gs, if_pos (by omega), Nat.add_sub_cancel_left]; rfl
    · rw [gs, if_pos (by omega), Nat.add_sub_cancel_left]; rfl
  · rintro fr C ⟨vs, bf, hle, kn, hvl, hrow, f0, f3, f4⟩ N
    have g0 : decide ((ts.length : Int) < (ts.length : Int)) = false := by simp
    repeat' (first | simp -implicitDefEqProofs only [zG1,zG2,zG3,zG4,zG5,zG6,zG7,eq_self,resV,rval,X.val,binv,fillL,setR,↓reduceIte,Nat.reduceEqDiff,Nat.reduceAdd,Nat.reduceMul,Nat.reduceLeDiff,Nat.reduceLT,Nat.reduceSub,reduceCtorEq,zGp, f0, f3, f4, g0] | ((with_reducible refine rows_intro (fun _ hb => ?_)); try simp only [set_none, ne_eq] at hb) | ((with_reducible refine new_intro (fun _ hb => ?_)); try simp only [set_none, ne_eq] at hb) | (with_reducible refine draw_same ?_) | ((with_reducible refine gd_split ?_ (fun _ => ?_) (fun _ => ?_)); exact rfl) | ((with_reducible refine td_split ?_ (fun _ => ?_) (fun _ => ?_)); exact rfl) | (with_reducible refine c_split (fun _ => ?_) (fun _ => ?_)))
    obtain ⟨r1, r2, r3⟩ := hrow.op kn hvl (by simp only [maxLen]; omega) hb
    exact ret_same (h _ _ _ hle r2 r3 r1)
theorem toBoxS_own (A : Option Addr) (c : Nat) (ts : List (List Int × Int)) (hx : FP H A 1 0 ts) (hn : ts.length ≤ 1048576) (hL : ∀ x ∈ ts, x.1.length ≤ 1048576) (h : ∀ v C bs, AHeap.le H C → New H bs → (∀ y, y ∈ bs → C y ≠ none) → OP C 179 1 0 v ts bs → K v C) :
    ACalls Try.prog w0 90 [.slice A ts.length c] H K := by
  refine acalls_of_sx mix Try.func90 of90 (by simp [ir90]) ?_; rw [ir90]; (try delta qT qI qC qO qM qG)
  repeat' (first | simp -implicitDefEqProofs only [zG1,zG2,zG3,zG4,zG5,zG6,zG7,eq_self,resV,rval,X.val,binv,fillL,setR,↓reduceIte,Nat.reduceEqDiff,Nat.reduceAdd,Nat.reduceMul,Nat.reduceLeDiff,Nat.reduceLT,Nat.reduceSub,reduceCtorEq,zGp] | ((with_reducible refine rows_intro (fun _ hb => ?_)); try simp only [set_none, ne_eq] at hb) | ((with_reducible refine new_intro (fun _ hb => ?_)); try simp only [set_none, ne_eq] at hb) | (with_reducible refine draw_same ?_) | ((with_reducible refine gd_split ?_ (fun _ => ?_) (fun _ => ?_)); exact rfl) | ((with_reducible refine td_split ?_ (fun _ => ?_) (fun _ => ?_)); exact rfl) | (with_reducible refine c_split (fun _ => ?_) (fun _ => ?_)))
  refine mk_intro (n := ts.length) (by omega) (by omega) (fun b hb => ?_)
  repeat' (first | simp -implicitDefEqProofs only [zG1,zG2,zG3,zG4,zG5,zG6,zG7,eq_self,resV,rval,X.val,binv,fillL,setR,↓reduceIte,Nat.reduceEqDiff,Nat.reduceAdd,Nat.reduceMul,Nat.reduceLeDiff,Nat.reduceLT,Nat.reduceSub,reduceCtorEq,zGp] | ((with_reducible refine rows_intro (fun _ hb => ?_)); try simp only [set_none, ne_eq] at hb) | ((with_reducible refine new_intro (fun _ hb => ?_)); try simp only [set_none, ne_eq] at hb) | (with_reducible refine draw_same ?_) | ((with_reducible refine gd_split ?_ (fun _ => ?_) (fun _ => ?_)); exact rfl) | ((with_reducible refine td_split ?_ (fun _ => ?_) (fun _ => ?_)); exact rfl) | (with_reducible refine c_split (fun _ => ?_) (fun _ => ?_)))
  have rl : ∀ n, (repl [.int .i64 0, .slice none 0 0] n).length = n * 2 := fun n => by
    induction n with
    | zero => rfl
    | succ n ih => simp only [repl, List.length_append, ih, List.length_cons, List.length_nil]; omega
  refine for_rule ts.length (fun k fr C => ∃ (vs : List Value) (bf : Nat → List Nat), AHeap.le H C ∧ Kn C b ⟨vs, true, 179, ts.length * 2⟩ ∧ vs.length = ts.length * 2 ∧ OPk H C b 1 0 ts k vs bf ∧ fr 0 = .slice A ts.length c ∧ fr 3 = .slice (some ⟨b, 0, none⟩) ts.length ts.length ∧ fr 4 = .int .i64 k)
    ⟨_, fun _ => [], (AHeap.le.refl H).fresh hb _, Kn.same _ _ _, rl _, fun i _ hi => absurd hi (Nat.not_lt_zero _), (by first | rfl | (simp only [put_at, ↓reduceIte, Nat.reduceEqDiff]; first | done | rfl | assumption) | simp [put_at, *]), (by first | rfl | (simp only [put_at, ↓reduceIte, Nat.reduceEqDiff]; first | done | rfl | assumption) | simp [put_at, *]), (by first | rfl | (simp only [put_at, ↓reduceIte, Nat.reduceEqDiff]; first | done | rfl | assumption) | simp [put_at, *])⟩ ?_ ?_
  · rintro k fr C hk ⟨vs, bf, hle, kn, hvl, hrow, f0, f3, f4⟩ N hN
    have g0 := lt_dec hk
    have g1 := rng hk
    have g2 := up1 hk (by omega)
    obtain ⟨q1, A', c', q2, fl⟩ := (hx.le hle).rd1 hk
    repeat' (first | simp -implicitDefEqProofs only [zG1,zG2,zG3,zG4,zG5,zG6,zG7,eq_self,resV,rval,X.val,binv,fillL,setR,↓reduceIte,Nat.reduceEqDiff,Nat.reduceAdd,Nat.reduceMul,Nat.reduceLeDiff,Nat.reduceLT,Nat.reduceSub,reduceCtorEq,zGp, f0, f3, f4, g0, g1, g2, q1, q2, adr_lit, Nat.zero_add] | ((with_reducible refine rows_intro (fun _ hb => ?_)); try simp only [set_none, ne_eq] at hb) | ((with_reducible refine new_intro (fun _ hb => ?_)); try simp only [set_none, ne_eq] at hb) | (with_reducible refine draw_same ?_) | ((with_reducible refine gd_split ?_ (fun _ => ?_) (fun _ => ?_)); exact rfl) | ((with_reducible refine td_split ?_ (fun _ => ?_) (fun _ => ?_)); exact rfl) | (with_reducible refine c_split (fun _ => ?_) (fun _ => ?_)))
    refine toBox_ok _ _ _ A' c' ts[k].1 ts[k].2 fl (hL _ (List.getElem_mem hk)) (fun v5 C5 bs5 l5 n5 w5 => ?_)
    obtain ⟨A5, c5, rfl, -⟩ := w5.fl
    have kn5 := kn.trans l5
    repeat' (first | simp -implicitDefEqProofs only [zG1,zG2,zG3,zG4,zG5,zG6,zG7,eq_self,resV,rval,X.val,binv,fillL,setR,↓reduceIte,Nat.reduceEqDiff,Nat.reduceAdd,Nat.reduceMul,Nat.reduceLeDiff,Nat.reduceLT,Nat.reduceSub,reduceCtorEq,zGp, f0, f3, f4, g1, adr_lit, Nat.zero_add] | ((with_reducible refine rows_intro (fun _ hb => ?_)); try simp only [set_none, ne_eq] at hb) | ((with_reducible refine new_intro (fun _ hb => ?_)); try simp only [set_none, ne_eq] at hb) | (with_reducible refine draw_same ?_) | ((with_reducible refine gd_split ?_ (fun _ => ?_) (fun _ => ?_)); exact rfl) | ((with_reducible refine td_split ?_ (fun _ => ?_) (fun _ => ?_)); exact rfl) | (with_reducible refine c_split (fun _ => ?_) (fun _ => ?_)))
    refine st_kn kn5 rfl rfl (by simp only; rw [hvl]; show k * 2 + 2 ≤ _; omega) (by simp [vcA, Value.oneCell']) (fun C6 hc6 ho6 k6 => ?_)
    have k6' : Kn C6 b ⟨setR vs (k * 2) [.int .i64 ts[k].2, .slice A5 ts[k].1.length c5], true, 179, ts.length * 2⟩ := k6
    have gs : ∀ j, (setR vs (k * 2) [.int .i64 ts[k].2, .slice A5 ts[k].1.length c5])[j]? = if k * 2 ≤ j ∧ j < k * 2 + 2 then ([.int .i64 ts[k].2, .slice A5 ts[k].1.length c5])[j - k * 2]? else vs[j]? := fun j => by
      rw [getElem?_setR _ _ _ _ (by rw [hvl]; show k * 2 + 2 ≤ _; omega)]; rfl
    repeat' (first | simp -implicitDefEqProofs only [zG1,zG2,zG3,zG4,zG5,zG6,zG7,eq_self,resV,rval,X.val,binv,fillL,setR,↓reduceIte,Nat.reduceEqDiff,Nat.reduceAdd,Nat.reduceMul,Nat.reduceLeDiff,Nat.reduceLT,Nat.reduceSub,reduceCtorEq,zGp, f0, f3, f4, g2] | ((with_reducible refine rows_intro (fun _ hb => ?_)); try simp only [set_none, ne_eq] at hb) | ((with_reducible refine new_intro (fun _ hb => ?_)); try simp only [set_none, ne_eq] at hb) | (with_reducible refine draw_same ?_) | ((with_reducible refine gd_split ?_ (fun _ => ?_) (fun _ => ?_)); exact rfl) | ((with_reducible refine td_split ?_ (fun _ => ?_) (fun _ => ?_)); exact rfl) | (with_reducible refine c_split (fun _ => ?_) (fun _ => ?_)))
    refine hN _ _ _ (.refl _) ⟨_, _, hc6.keep (hle.trans l5) (New.one hb), k6', ?_, hrow.put hk hle l5 n5 w5 hc6 kn.ne (fun j hj => ?_) ?_ ?_ (by decide) (by decide), (by first | rfl | (simp only [put_at, ↓reduceIte, Nat.reduceEqDiff]; first | done | rfl | assumption) | simp [put_at, *]), (by first | rfl | (simp only [put_at, ↓reduceIte, Nat.reduceEqDiff]; first | done | rfl | assumption) | simp [put_at, *]), (by first | rfl | (simp only [put_at, ↓reduceIte, Nat.reduceEqDiff]; first | done | rfl | assumption) | simp [put_at, *])⟩
    · rw [length_setR]; exact hvl
    · rw [gs, if_neg hj]
    · rw [gs, if_pos (by omega), Nat.add_sub_cancel_left]; rfl
    · rw [gs, if_pos (by omega), Nat.add_sub_cancel_left]; rfl
  · rintro fr C ⟨vs, bf, hle, kn, hvl, hrow, f0, f3, f4⟩ N
    have g0 : decide ((ts.length : Int) < (ts.length : Int)) = false := by simp
    repeat' (first | simp -implicitDefEqProofs only [zG1,zG2,zG3,zG4,zG5,zG6,zG7,eq_self,resV,rval,X.val,binv,fillL,setR,↓reduceIte,Nat.reduceEqDiff,Nat.reduceAdd,Nat.reduceMul,Nat.reduceLeDiff,Nat.reduceLT,Nat.reduceSub,reduceCtorEq,zGp, f0, f3, f4, g0] | ((with_reducible refine rows_intro (fun _ hb => ?_)); try simp only [set_none, ne_eq] at hb) | ((with_reducible refine new_intro (fun _ hb => ?_)); try simp only [set_none, ne_eq] at hb) | (with_reducible refine draw_same ?_) | ((with_reducible refine gd_split ?_ (fun _ => ?_) (fun _ => ?_)); exact rfl) | ((with_reducible refine td_split ?_ (fun _ => ?_) (fun _ => ?_)); exact rfl) | (with_reducible refine c_split (fun _ => ?_) (fun _ => ?_)))
    obtain ⟨r1, r2, r3⟩ := hrow.op kn hvl (by simp only [maxLen]; omega) hb
    exact ret_same (h _ _ _ hle r2 r3 r1)
end Go.Proofs.Ytfjhjfddgdokgaa
namespace Go.Proofs.Ytfjhjfddgdokgaa
set_option linter.all false
open Go Go.RowKit
set_option maxRecDepth 100000
variable (w0 : World)
/-- No block stands in both. -/
abbrev Apart (a b : List Nat) : Prop := ∀ y, y ∈ a → ¬ y ∈ b
/-- A crew's rows, all of the call's own, no two in the same block. -/
structure OwC (C : AHeap) (c : Cr) (v0 v1 v2 v5 : Value) (b0 b1 b2 b5 : List Nat) : Prop where
  r0 : Rs C 29 111 5 v0 (c.codes.map qcells) b0
  r1 : OP C 125 0 1 v1 c.threads b1
  r2 : OP C 179 1 0 v2 c.boxes b2
  r5 : Rw C 3 1 v5 c.log.length (ints c.log) b5
  d01 : Apart b1 b0
  d02 : Apart b2 b0
  d05 : Apart b5 b0
  d12 : Apart b2 b1
  d15 : Apart b5 b1
  d25 : Apart b5 b2
theorem Apart.symm {a b : List Nat} (h : Apart a b) : Apart b a := fun y h1 h2 => h y h2 h1
theorem OwC.trans {C C' : AHeap} {c : Cr} {v0 v1 v2 v5 : Value} {b0 b1 b2 b5 : List Nat} (h : OwC C c v0 v1 v2 v5 b0 b1 b2 b5) (l : AHeap.le C C') : OwC C' c v0 v1 v2 v5 b0 b1 b2 b5 :=
  ⟨h.r0.trans l, h.r1.trans l, h.r2.trans l, h.r5.trans l, h.d01, h.d02, h.d05, h.d12, h.d15, h.d25⟩
theorem OwC.chg {C C' : AHeap} {c : Cr} {v0 v1 v2 v5 : Value} {b0 b1 b2 b5 bs : List Nat} (h : OwC C c v0 v1 v2 v5 b0 b1 b2 b5) (hc : Chg C C' bs) (h0 : Apart b0 bs) (h1 : Apart b1 bs) (h2 : Apart b2 bs) (h5 : Apart b5 bs) : OwC C' c v0 v1 v2 v5 b0 b1 b2 b5 :=
  ⟨h.r0.chg hc h0, h.r1.chg hc h1, h.r2.chg hc h2, h.r5.chg hc h5, h.d01, h.d02, h.d05, h.d12, h.d15, h.d25⟩
theorem OwC.crR {C : AHeap} {c : Cr} {v0 v1 v2 v5 : Value} {b0 b1 b2 b5 : List Nat} (h : OwC C c v0 v1 v2 v5 b0 b1 b2 b5) : ∃ B0 e0 B1 e1 B2 e2 B5 e5, v0 = .slice B0 c.codes.length e0 ∧ v1 = .slice B1 c.threads.length e1 ∧ v2 = .slice B2 c.boxes.length e2 ∧ v5 = .slice B5 c.log.length e5 ∧ CrR C c B0 B1 B2 B5 := by
  have r0 := h.r0
  have r1 := h.r1
  have r2 := h.r2
  obtain ⟨B0, e0, rfl⟩ := r0.slice
  obtain ⟨B1, e1, rfl⟩ := r1.slice
  obtain ⟨B2, e2, rfl⟩ := r2.slice
  obtain ⟨B5, e5, rfl, f5⟩ := h.r5.fl
  exact ⟨B0, e0, B1, e1, B2, e2, B5, e5, by rw [List.length_map], rfl, rfl, rfl, ⟨r0.fr, r1.fp.1, r2.fp.1, f5⟩⟩
theorem Chg.kept {C C' : AHeap} {bs : List Nat} {y : Nat} (hc : Chg C C' bs) (h : C y ≠ none) (hd : ¬ y ∈ bs) : C' y ≠ none := by
  cases e : C y with
  | none => exact absurd e h
  | some k => exact (hc y k hd e).ne
theorem le_kept {C C' : AHeap} {y : Nat} (l : AHeap.le C C') (h : C y ≠ none) : C' y ≠ none := fun e => h (l.none e)
theorem st_own {C : AHeap} {K : Value → AHeap → Prop} {x o n n' : Nat} {t : TypeId} {cs : List Value} {v : Value} (k : Kn C x ⟨cs, true, t, n'⟩) (vs : List Value) (hv : v.cells = vs.toArray) (hn : vs.length = n) (hl : o + n ≤ cs.length) (h1 : ∀ u ∈ vs, u.oneCell' = true)
    (h : ∀ C', Chg C C' [x] → Kn C' x ⟨setR cs o vs, true, t, n'⟩ → K undef C') : stK n (.pointer (some ⟨x, o, none⟩)) v K C := by
  refine st_kn k rfl (by rw [hv]; simpa using hn) hl (by rw [hv]; exact h1) (fun C' hc ho k => ?_)
  rw [hv] at k
  exact h C' hc k
section
variable (H : AHeap) (K : Value → AHeap → Prop) (c : Cr) (A0 : Option Addr) (c0 : Nat) (A1 : Option Addr) (c1 : Nat) (A2 : Option Addr) (c2 : Nat) (A5 : Option Addr) (c5 : Nat)
abbrev crz : List Value := [.slice none 0 0, .slice none 0 0, .slice none 0 0, .int .i64 0, .int .i64 0, .slice none 0 0]
theorem toCrew_own (hc : CrR H c A0 A1 A2 A5) (hb : CrB 1048576 c) (h : ∀ v0 v1 v2 v5 b0 b1 b2 b5 C, AHeap.le H C → OwC C c v0 v1 v2 v5 b0 b1 b2 b5 → New H b0 → New H b1 → New H b2 → New H b5 → K (.agg #[v0, v1, v2, .int .i64 c.turn, .int .i64 c.last, v5]) C) : ACalls Try.prog w0 34 [crv c A0 c0 A1 c1 A2 c2 A5 c5] H K := by
  refine acalls_of_sx mix Try.func34 of34 (by simp [ir34]) ?_; rw [ir34]; (try delta qT qI qC qO qM qG)
  repeat' (first | simp -implicitDefEqProofs only [zG1,zG2,zG3,zG4,zG5,zG6,zG7,eq_self,resV,rval,X.val,binv,fillL,setR,↓reduceIte,Nat.reduceEqDiff,Nat.reduceAdd,Nat.reduceMul,Nat.reduceLeDiff,Nat.reduceLT,Nat.reduceSub,reduceCtorEq,zGq])
  refine new_intro (fun x1 h1 => ?_)
  repeat' (first | simp -implicitDefEqProofs only [zG1,zG2,zG3,zG4,zG5,zG6,zG7,eq_self,resV,rval,X.val,binv,fillL,setR,↓reduceIte,Nat.reduceEqDiff,Nat.reduceAdd,Nat.reduceMul,Nat.reduceLeDiff,Nat.reduceLT,Nat.reduceSub,reduceCtorEq,zGq])
  refine new_intro (fun x2 h2 => ?_)
  repeat' (first | simp -implicitDefEqProofs only [zG1,zG2,zG3,zG4,zG5,zG6,zG7,eq_self,resV,rval,X.val,binv,fillL,setR,↓reduceIte,Nat.reduceEqDiff,Nat.reduceAdd,Nat.reduceMul,Nat.reduceLeDiff,Nat.reduceLT,Nat.reduceSub,reduceCtorEq,zGq])
  refine new_intro (fun x3 h3 => ?_)
  simp only [set_none, ne_eq] at h2 h3
  have l0 : AHeap.le H (((H.set x1 ⟨crc c A0 c0 A1 c1 A2 c2 A5 c5, true, 56, 6⟩).set x2 ⟨crz, true, 62, 6⟩).set x3 ⟨crz, true, 62, 6⟩) := ((AHeap.le.refl H).fresh h1 _).fresh (set_none.2 h2) _ |>.fresh (set_none.2 ⟨h3.1, set_none.2 h3.2⟩) _
  have k1 : Kn (((H.set x1 ⟨crc c A0 c0 A1 c1 A2 c2 A5 c5, true, 56, 6⟩).set x2 ⟨crz, true, 62, 6⟩).set x3 ⟨crz, true, 62, 6⟩) x1 ⟨crc c A0 c0 A1 c1 A2 c2 A5 c5, true, 56, 6⟩ := ((Kn.same _ _ _).set (fun e => h2.1 e.symm) _).set (fun e => h3.2.1 e.symm) _
  have k2 : Kn (((H.set x1 ⟨crc c A0 c0 A1 c1 A2 c2 A5 c5, true, 56, 6⟩).set x2 ⟨crz, true, 62, 6⟩).set x3 ⟨crz, true, 62, 6⟩) x2 ⟨crz, true, 62, 6⟩ := (Kn.same _ _ _).set (fun e => h3.1 e.symm) _
  have k3 : Kn (((H.set x1 ⟨crc c A0 c0 A1 c1 A2 c2 A5 c5, true, 56, 6⟩).set x2 ⟨crz, true, 62, 6⟩).set x3 ⟨crz, true, 62, 6⟩) x3 ⟨crz, true, 62, 6⟩ := Kn.same _ _ _
  generalize (((H.set x1 _).set x2 _).set x3 _) = C at l0 k1 k2 k3 ⊢
  have n13 : ¬ x1 ∈ [x3] := by simpa using fun e : x1 = x3 => h3.2.1 e.symm
  have n23 : ¬ x2 ∈ [x3] := by simpa using fun e : x2 = x3 => h3.1 e.symm
  have g := kn6 k1
  repeat' (first | simp -implicitDefEqProofs only [zG1,zG2,zG3,zG4,zG5,zG6,zG7,eq_self,resV,rval,X.val,binv,fillL,setR,↓reduceIte,Nat.reduceEqDiff,Nat.reduceAdd,Nat.reduceMul,Nat.reduceLeDiff,Nat.reduceLT,Nat.reduceSub,reduceCtorEq,zGq, g])
  have L := l0
  refine toQuadSS_ok _ _ _ A0 c0 _ (hc.f0.le L) hb.n0 hb.m0 (fun v0 C1 b0' l0 n0' r0' => ?_)
  obtain ⟨b0, s0, t0, r0⟩ := r0'.tight
  have n0 : New C b0 := fun y hy => n0' y (s0 y hy)
  clear r0' n0' s0
  have m0 := n0
  have u0 : ∀ y, y ∈ [x3] → ¬ y ∈ b0 := fun y hy hm => by
    simp only [List.mem_cons, List.not_mem_nil, or_false] at hy; subst hy; exact k3.ne (n0 _ hm)
  have y0 : ¬ x2 ∈ b0 := fun hm => k2.ne (n0 _ hm)
  replace n0 := n0.le L
  replace k1 := k1.trans l0
  replace k2 := k2.trans l0
  replace k3 := k3.trans l0
  replace L := L.trans l0
  have g := kn6 k1
  obtain ⟨V0, e0, rfl⟩ := r0.slice
  repeat' (first | simp -implicitDefEqProofs only [zG1,zG2,zG3,zG4,zG5,zG6,zG7,eq_self,resV,rval,X.val,binv,fillL,setR,↓reduceIte,Nat.reduceEqDiff,Nat.reduceAdd,Nat.reduceMul,Nat.reduceLeDiff,Nat.reduceLT,Nat.reduceSub,reduceCtorEq,zGq, g])
  refine st_own k3 [_] rfl rfl (by simp) (by simp [ocS, ocI]) (fun C2 hc2 k3 => ?_)
  simp only [setR, List.set_cons_zero, List.set_cons_succ, List.length_map] at k3
  replace k1 := k1.chg hc2 n13
  replace k2 := k2.chg hc2 n23
  replace r0 := r0.chg hc2 fun y h1 h2 => u0 y h2 h1
  replace t0 : ∀ y, y ∈ b0 → C2 y ≠ none := fun y hy => hc2.kept (t0 y hy) fun h2 => u0 y h2 hy
  replace L := hc2.keep L (New.one h3.2.2)
  have g := kn6 k1
  repeat' (first | simp -implicitDefEqProofs only [zG1,zG2,zG3,zG4,zG5,zG6,zG7,eq_self,resV,rval,X.val,binv,fillL,setR,↓reduceIte,Nat.reduceEqDiff,Nat.reduceAdd,Nat.reduceMul,Nat.reduceLeDiff,Nat.reduceLT,Nat.reduceSub,reduceCtorEq,zGq, g])
  refine toThreadS_own _ _ _ A1 c1 _ (hc.f1.le L) hb.n1 hb.m1 (fun v1 C3 b1 l1 n1 t1 r1 => ?_)
  have m1 := n1
  have u1 : ∀ y, y ∈ [x3] → ¬ y ∈ b1 := fun y hy hm => by
    simp only [List.mem_cons, List.not_mem_nil, or_false] at hy; subst hy; exact k3.ne (n1 _ hm)
  have y1 : ¬ x2 ∈ b1 := fun hm => k2.ne (n1 _ hm)
  replace n1 := n1.le L
  have d01 : Apart b1 b0 := fun y h1 h2 => t0 y h2 (m1 _ h1)
  replace r0 := r0.trans l1
  replace t0 : ∀ y, y ∈ b0 → C3 y ≠ none := fun y hy => le_kept l1 (t0 y hy)
  replace k1 := k1.trans l1
  replace k2 := k2.trans l1
  replace k3 := k3.trans l1
  replace L := L.trans l1
  have g := kn6 k1
  obtain ⟨V1, e1, rfl⟩ := r1.slice
  repeat' (first | simp -implicitDefEqProofs only [zG1,zG2,zG3,zG4,zG5,zG6,zG7,eq_self,resV,rval,X.val,binv,fillL,setR,↓reduceIte,Nat.reduceEqDiff,Nat.reduceAdd,Nat.reduceMul,Nat.reduceLeDiff,Nat.reduceLT,Nat.reduceSub,reduceCtorEq,zGq, g])
  refine st_own k3 [_] rfl rfl (by simp) (by simp [ocS, ocI]) (fun C4 hc4 k3 => ?_)
  simp only [setR, List.set_cons_zero, List.set_cons_succ, List.length_map] at k3
  replace k1 := k1.chg hc4 n13
  replace k2 := k2.chg hc4 n23
  replace r0 := r0.chg hc4 fun y h1 h2 => u0 y h2 h1
  replace t0 : ∀ y, y ∈ b0 → C4 y ≠ none := fun y hy => hc4.kept (t0 y hy) fun h2 => u0 y h2 hy
  replace r1 := r1.chg hc4 fun y h1 h2 => u1 y h2 h1
  replace t1 : ∀ y, y ∈ b1 → C4 y ≠ none := fun y hy => hc4.kept (t1 y hy) fun h2 => u1 y h2 hy
  replace L := hc4.keep L (New.one h3.2.2)
  have g := kn6 k1
  repeat' (first | simp -implicitDefEqProofs only [zG1,zG2,zG3,zG4,zG5,zG6,zG7,eq_self,resV,rval,X.val,binv,fillL,setR,↓reduceIte,Nat.reduceEqDiff,Nat.reduceAdd,Nat.reduceMul,Nat.reduceLeDiff,Nat.reduceLT,Nat.reduceSub,reduceCtorEq,zGq, g])
  refine toBoxS_own _ _ _ A2 c2 _ (hc.f2.le L) hb.n2 hb.m2 (fun v2 C5 b2 l2 n2 t2 r2 => ?_)
  have m2 := n2
  have u2 : ∀ y, y ∈ [x3] → ¬ y ∈ b2 := fun y hy hm => by
    simp only [List.mem_cons, List.not_mem_nil, or_false] at hy; subst hy; exact k3.ne (n2 _ hm)
  have y2 : ¬ x2 ∈ b2 := fun hm => k2.ne (n2 _ hm)
  replace n2 := n2.le L
  have d02 : Apart b2 b0 := fun y h1 h2 => t0 y h2 (m2 _ h1)
  replace r0 := r0.trans l2
  replace t0 : ∀ y, y ∈ b0 → C5 y ≠ none := fun y hy => le_kept l2 (t0 y hy)
  have d12 : Apart b2 b1 := fun y h1 h2 => t1 y h2 (m2 _ h1)
  replace r1 := r1.trans l2
  replace t1 : ∀ y, y ∈ b1 → C5 y ≠ none := fun y hy => le_kept l2 (t1 y hy)
  replace k1 := k1.trans l2
  replace k2 := k2.trans l2
  replace k3 := k3.trans l2
  replace L := L.trans l2
  have g := kn6 k1
  obtain ⟨V2, e2, rfl⟩ := r2.slice
  repeat' (first | simp -implicitDefEqProofs only [zG1,zG2,zG3,zG4,zG5,zG6,zG7,eq_self,resV,rval,X.val,binv,fillL,setR,↓reduceIte,Nat.reduceEqDiff,Nat.reduceAdd,Nat.reduceMul,Nat.reduceLeDiff,Nat.reduceLT,Nat.reduceSub,reduceCtorEq,zGq, g])
  refine st_own k3 [_] rfl rfl (by simp) (by simp [ocS, ocI]) (fun C6 hc6 k3 => ?_)
  simp only [setR, List.set_cons_zero, List.set_cons_succ, List.length_map] at k3
  replace k1 := k1.chg hc6 n13
  replace k2 := k2.chg hc6 n23
  replace r0 := r0.chg hc6 fun y h1 h2 => u0 y h2 h1
  replace t0 : ∀ y, y ∈ b0 → C6 y ≠ none := fun y hy => hc6.kept (t0 y hy) fun h2 => u0 y h2 hy
  replace r1 := r1.chg hc6 fun y h1 h2 => u1 y h2 h1
  replace t1 : ∀ y, y ∈ b1 → C6 y ≠ none := fun y hy => hc6.kept (t1 y hy) fun h2 => u1 y h2 hy
  replace r2 := r2.chg hc6 fun y h1 h2 => u2 y h2 h1
  replace t2 : ∀ y, y ∈ b2 → C6 y ≠ none := fun y hy => hc6.kept (t2 y hy) fun h2 => u2 y h2 hy
  replace L := hc6.keep L (New.one h3.2.2)
  have g := kn6 k1
  repeat' (first | simp -implicitDefEqProofs only [zG1,zG2,zG3,zG4,zG5,zG6,zG7,eq_self,resV,rval,X.val,binv,fillL,setR,↓reduceIte,Nat.reduceEqDiff,Nat.reduceAdd,Nat.reduceMul,Nat.reduceLeDiff,Nat.reduceLT,Nat.reduceSub,reduceCtorEq,zGq, g])
  refine st_own k3 [_] rfl rfl (by simp) (by simp [ocS, ocI]) (fun C7 hc7 k3 => ?_)
  simp only [setR, List.set_cons_zero, List.set_cons_succ, List.length_map] at k3
  replace k1 := k1.chg hc7 n13
  replace k2 := k2.chg hc7 n23
  replace r0 := r0.chg hc7 fun y h1 h2 => u0 y h2 h1
  replace t0 : ∀ y, y ∈ b0 → C7 y ≠ none := fun y hy => hc7.kept (t0 y hy) fun h2 => u0 y h2 hy
  replace r1 := r1.chg hc7 fun y h1 h2 => u1 y h2 h1
  replace t1 : ∀ y, y ∈ b1 → C7 y ≠ none := fun y hy => hc7.kept (t1 y hy) fun h2 => u1 y h2 hy
  replace r2 := r2.chg hc7 fun y h1 h2 => u2 y h2 h1
  replace t2 : ∀ y, y ∈ b2 → C7 y ≠ none := fun y hy => hc7.kept (t2 y hy) fun h2 => u2 y h2 hy
  replace L := hc7.keep L (New.one h3.2.2)
  have g := kn6 k1
  repeat' (first | simp -implicitDefEqProofs only [zG1,zG2,zG3,zG4,zG5,zG6,zG7,eq_self,resV,rval,X.val,binv,fillL,setR,↓reduceIte,Nat.reduceEqDiff,Nat.reduceAdd,Nat.reduceMul,Nat.reduceLeDiff,Nat.reduceLT,Nat.reduceSub,reduceCtorEq,zGq, g])
  refine st_own k3 [_] rfl rfl (by simp) (by simp [ocS, ocI]) (fun C8 hc8 k3 => ?_)
  simp only [setR, List.set_cons_zero, List.set_cons_succ, List.length_map] at k3
  replace k1 := k1.chg hc8 n13
  replace k2 := k2.chg hc8 n23
  replace r0 := r0.chg hc8 fun y h1 h2 => u0 y h2 h1
  replace t0 : ∀ y, y ∈ b0 → C8 y ≠ none := fun y hy => hc8.kept (t0 y hy) fun h2 => u0 y h2 hy
  replace r1 := r1.chg hc8 fun y h1 h2 => u1 y h2 h1
  replace t1 : ∀ y, y ∈ b1 → C8 y ≠ none := fun y hy => hc8.kept (t1 y hy) fun h2 => u1 y h2 hy
  replace r2 := r2.chg hc8 fun y h1 h2 => u2 y h2 h1
  replace t2 : ∀ y, y ∈ b2 → C8 y ≠ none := fun y hy => hc8.kept (t2 y hy) fun h2 => u2 y h2 hy
  replace L := hc8.keep L (New.one h3.2.2)
  have g := kn6 k1
  repeat' (first | simp -implicitDefEqProofs only [zG1,zG2,zG3,zG4,zG5,zG6,zG7,eq_self,resV,rval,X.val,binv,fillL,setR,↓reduceIte,Nat.reduceEqDiff,Nat.reduceAdd,Nat.reduceMul,Nat.reduceLeDiff,Nat.reduceLT,Nat.reduceSub,reduceCtorEq,zGq, g])
  refine toIntS_ok _ _ _ A5 c5 _ (hc.f5.le L) hb.n5 (fun v5 C9 b5 l5 n5 r5 => ?_)
  have t5 := rw_kn r5
  have m5 := n5
  have u5 : ∀ y, y ∈ [x3] → ¬ y ∈ b5 := fun y hy hm => by
    simp only [List.mem_cons, List.not_mem_nil, or_false] at hy; subst hy; exact k3.ne (n5 _ hm)
  have y5 : ¬ x2 ∈ b5 := fun hm => k2.ne (n5 _ hm)
  replace n5 := n5.le L
  have d05 : Apart b5 b0 := fun y h1 h2 => t0 y h2 (m5 _ h1)
  replace r0 := r0.trans l5
  replace t0 : ∀ y, y ∈ b0 → C9 y ≠ none := fun y hy => le_kept l5 (t0 y hy)
  have d15 : Apart b5 b1 := fun y h1 h2 => t1 y h2 (m5 _ h1)
  replace r1 := r1.trans l5
  replace t1 : ∀ y, y ∈ b1 → C9 y ≠ none := fun y hy => le_kept l5 (t1 y hy)
  have d25 : Apart b5 b2 := fun y h1 h2 => t2 y h2 (m5 _ h1)
  replace r2 := r2.trans l5
  replace t2 : ∀ y, y ∈ b2 → C9 y ≠ none := fun y hy => le_kept l5 (t2 y hy)
  replace k1 := k1.trans l5
  replace k2 := k2.trans l5
  replace k3 := k3.trans l5
  replace L := L.trans l5
  have g := kn6 k1
  obtain ⟨V5, e5, rfl, -⟩ := r5.fl
  repeat' (first | simp -implicitDefEqProofs only [zG1,zG2,zG3,zG4,zG5,zG6,zG7,eq_self,resV,rval,X.val,binv,fillL,setR,↓reduceIte,Nat.reduceEqDiff,Nat.reduceAdd,Nat.reduceMul,Nat.reduceLeDiff,Nat.reduceLT,Nat.reduceSub,reduceCtorEq,zGq, g])
  refine st_own k3 [_] rfl rfl (by simp) (by simp [ocS, ocI]) (fun C10 hc10 k3 => ?_)
  simp only [setR, List.set_cons_zero, List.set_cons_succ, List.length_map] at k3
  replace k1 := k1.chg hc10 n13
  replace k2 := k2.chg hc10 n23
  replace r0 := r0.chg hc10 fun y h1 h2 => u0 y h2 h1
  replace t0 : ∀ y, y ∈ b0 → C10 y ≠ none := fun y hy => hc10.kept (t0 y hy) fun h2 => u0 y h2 hy
  replace r1 := r1.chg hc10 fun y h1 h2 => u1 y h2 h1
  replace t1 : ∀ y, y ∈ b1 → C10 y ≠ none := fun y hy => hc10.kept (t1 y hy) fun h2 => u1 y h2 hy
  replace r2 := r2.chg hc10 fun y h1 h2 => u2 y h2 h1
  replace t2 : ∀ y, y ∈ b2 → C10 y ≠ none := fun y hy => hc10.kept (t2 y hy) fun h2 => u2 y h2 hy
  replace r5 := r5.chg hc10 fun y h1 h2 => u5 y h2 h1
  replace t5 : ∀ y, y ∈ b5 → C10 y ≠ none := fun y hy => hc10.kept (t5 y hy) fun h2 => u5 y h2 hy
  replace L := hc10.keep L (New.one h3.2.2)
  have g := kn6 k1
  have g3 := kn6 k3
  repeat' (first | simp -implicitDefEqProofs only [zG1,zG2,zG3,zG4,zG5,zG6,zG7,eq_self,resV,rval,X.val,binv,fillL,setR,↓reduceIte,Nat.reduceEqDiff,Nat.reduceAdd,Nat.reduceMul,Nat.reduceLeDiff,Nat.reduceLT,Nat.reduceSub,reduceCtorEq,zGq, g3])
  refine st_own k2 _ (by rw [vcA]) rfl (by simp) (by simp [ocI, ocS]) (fun C11 hc11 k2 => ?_)
  simp only [setR, List.set_cons_zero, List.set_cons_succ] at k2
  replace L := hc11.keep L (New.one h2.2)
  have z : ∀ {bs : List Nat}, ¬ x2 ∈ bs → Apart bs [x2] := fun h y hy hm => by
    simp only [List.mem_cons, List.not_mem_nil, or_false] at hm; subst hm; exact h hy
  replace r0 := r0.chg hc11 (z y0)
  replace r1 := r1.chg hc11 (z y1)
  replace r2 := r2.chg hc11 (z y2)
  replace r5 := r5.chg hc11 (z y5)
  have g := kn6 k2
  repeat' (first | simp -implicitDefEqProofs only [zG1,zG2,zG3,zG4,zG5,zG6,zG7,eq_self,resV,rval,X.val,binv,fillL,setR,↓reduceIte,Nat.reduceEqDiff,Nat.reduceAdd,Nat.reduceMul,Nat.reduceLeDiff,Nat.reduceLT,Nat.reduceSub,reduceCtorEq,zGq, g])
  exact ret_same (h _ _ _ _ b0 b1 b2 b5 _ L ⟨by simpa only [List.length_map] using r0, r1, r2, r5, d01, d02, d05, d12, d15, d25⟩ n0 n1 n2 n5)
end
/-- The valid crews. -/
def crewPre (c : Cr) : Bool := turnsOk c.codes.length c.turn c.last c.log && decide (c.threads.length = c.codes.length) && boxesOk c.boxes
def crewOk (c : Cr) : Bool := crewPre c && (c.threads.zip c.codes).all fun x => threadValid x.1.1 x.1.2 x.2 && codeThere x.2 c.boxes.length
theorem crewOk_pre {c : Cr} (h : crewPre c = false) : crewOk c = false := by rw [crewOk, h]; rfl
theorem crewOk_bad {c : Cr} {k : Nat} (h1 : k < c.threads.length) (h2 : k < c.codes.length) (h : (threadValid c.threads[k].1 c.threads[k].2 c.codes[k] && codeThere c.codes[k] c.boxes.length) = false) : crewOk c = false := by
  have : ((c.threads.zip c.codes).all fun x => threadValid x.1.1 x.1.2 x.2 && codeThere x.2 c.boxes.length) = false := by
    rw [List.all_eq_false]
    refine ⟨(c.threads[k], c.codes[k]), List.mem_iff_getElem.2 ⟨k, by rw [List.length_zip]; omega, by rw [List.getElem_zip]⟩, ?_⟩
    simp only [h]; simp
  rw [crewOk, this, Bool.and_false]
theorem crewOk_good {c : Cr} (h : crewPre c = true) (hk : ∀ k (h1 : k < c.threads.length) (h2 : k < c.codes.length), (threadValid c.threads[k].1 c.threads[k].2 c.codes[k] && codeThere c.codes[k] c.boxes.length) = true) : crewOk c = true := by
  rw [crewOk, h, Bool.true_and, List.all_eq_true]
  intro x hx
  obtain ⟨k, hk', rfl⟩ := List.mem_iff_getElem.1 hx
  rw [List.length_zip] at hk'
  rw [List.getElem_zip]
  exact hk k (by omega) (by omega)
end Go.Proofs.Ytfjhjfddgdokgaa
namespace Go.Proofs.Ytfjhjfddgdokgaa
set_option linter.all false
open Go Go.RowKit
set_option maxRecDepth 100000
variable (w0 : World)
theorem crewValid_ok (H : AHeap) (K : Value → AHeap → Prop) (c : Cr) (A0 : Option Addr) (c0 : Nat) (A1 : Option Addr) (c1 : Nat) (A2 : Option Addr) (c2 : Nat) (A5 : Option Addr) (c5 : Nat) (hc : CrR H c A0 A1 A2 A5) (hb : CrB 1048576 c) (h : K (.bool (crewOk c)) H) :
    ACalls Try.prog w0 35 [crv c A0 c0 A1 c1 A2 c2 A5 c5] H K := by
  have nc := hb.n0
  have nb := hb.n2
  refine acalls_of_sx mix Try.func35 of35 (by simp [ir35]) ?_; rw [ir35]; (try delta qT qI qC qO qM qG)
  repeat' (first | simp -implicitDefEqProofs only [zG1,zG2,zG3,zG4,zG5,zG6,zG7,eq_self,resV,rval,X.val,binv,fillL,setR,↓reduceIte,Nat.reduceEqDiff,Nat.reduceAdd,Nat.reduceMul,Nat.reduceLeDiff,Nat.reduceLT,Nat.reduceSub,reduceCtorEq,zGq])
  refine new_intro (fun x1 hx1 => ?_)
  have l1 := (AHeap.le.refl H).fresh hx1 ⟨crc c A0 c0 A1 c1 A2 c2 A5 c5, true, 62, 6⟩
  have k1 := Kn.same H x1 ⟨crc c A0 c0 A1 c1 A2 c2 A5 c5, true, 62, 6⟩
  generalize H.set x1 _ = C at l1 k1 ⊢
  have q := kn6 k1
  have hc' := hc.le l1
  cases e1 : turnsOk c.codes.length c.turn c.last c.log with
  | false =>
    rw [crewOk_pre (by rw [crewPre, e1]; rfl)] at h
    repeat' (first | simp -implicitDefEqProofs only [zG1,zG2,zG3,zG4,zG5,zG6,zG7,eq_self,resV,rval,X.val,binv,fillL,setR,↓reduceIte,Nat.reduceEqDiff,Nat.reduceAdd,Nat.reduceMul,Nat.reduceLeDiff,Nat.reduceLT,Nat.reduceSub,reduceCtorEq,zGq, q, e1] | (with_reducible refine turnsValid_ok _ _ _ _ _ _ A5 c5 _ hc'.f5 hb.n5 ?_))
    exact ⟨H, l1, h⟩
  | true =>
    by_cases hl : c.threads.length = c.codes.length
    case neg =>
      have e2 : ((c.threads.length : Int) != (c.codes.length : Int)) = true := by simp; omega
      rw [crewOk_pre (by rw [crewPre, e1, decide_eq_false hl]; rfl)] at h
      repeat' (first | simp -implicitDefEqProofs only [zG1,zG2,zG3,zG4,zG5,zG6,zG7,eq_self,resV,rval,X.val,binv,fillL,setR,↓reduceIte,Nat.reduceEqDiff,Nat.reduceAdd,Nat.reduceMul,Nat.reduceLeDiff,Nat.reduceLT,Nat.reduceSub,reduceCtorEq,zGq, q, e1, e2] | (with_reducible refine turnsValid_ok _ _ _ _ _ _ A5 c5 _ hc'.f5 hb.n5 ?_))
      exact ⟨H, l1, h⟩
    case pos =>
      have e2 : ((c.threads.length : Int) != (c.codes.length : Int)) = false := by simp; omega
      cases e3 : boxesOk c.boxes with
      | false =>
        rw [crewOk_pre (by rw [crewPre, e3, Bool.and_false])] at h
        repeat' (first | simp -implicitDefEqProofs only [zG1,zG2,zG3,zG4,zG5,zG6,zG7,eq_self,resV,rval,X.val,binv,fillL,setR,↓reduceIte,Nat.reduceEqDiff,Nat.reduceAdd,Nat.reduceMul,Nat.reduceLeDiff,Nat.reduceLT,Nat.reduceSub,reduceCtorEq,zGq, q, e1, e2, e3] | (with_reducible refine turnsValid_ok _ _ _ _ _ _ A5 c5 _ hc'.f5 hb.n5 ?_) | (with_reducible refine boxesValid_ok _ _ _ A2 c2 _ hc'.f2 hb.n2 hb.m2 ?_))
        exact ⟨H, l1, h⟩
      | true =>
        repeat' (first | simp -implicitDefEqProofs only [zG1,zG2,zG3,zG4,zG5,zG6,zG7,eq_self,resV,rval,X.val,binv,fillL,setR,↓reduceIte,Nat.reduceEqDiff,Nat.reduceAdd,Nat.reduceMul,Nat.reduceLeDiff,Nat.reduceLT,Nat.reduceSub,reduceCtorEq,zGq, q, e1, e2, e3] | (with_reducible refine turnsValid_ok _ _ _ _ _ _ A5 c5 _ hc'.f5 hb.n5 ?_) | (with_reducible refine boxesValid_ok _ _ _ A2 c2 _ hc'.f2 hb.n2 hb.m2 ?_))
        refine for_rule c.codes.length (fun k fr D => D = C ∧ (∀ i (h1 : i < c.threads.length) (h2 : i < c.codes.length), i < k → (threadValid c.threads[i].1 c.threads[i].2 c.codes[i] && codeThere c.codes[i] c.boxes.length) = true) ∧ fr 1 = .pointer (some ⟨x1, 0, none⟩) ∧ fr 34 = .slice A0 c.codes.length c0 ∧ fr 35 = .int .i64 c.codes.length ∧ fr 36 = .int .i64 k)
          ⟨rfl, fun i _ _ hi => absurd hi (Nat.not_lt_zero _), (by first | rfl | (simp only [put_at, ↓reduceIte, Nat.reduceEqDiff]; first | done | rfl | assumption) | simp [put_at, *]), (by first | rfl | (simp only [put_at, ↓reduceIte, Nat.reduceEqDiff]; first | done | rfl | assumption) | simp [put_at, *]), (by first | rfl | (simp only [put_at, ↓reduceIte, Nat.reduceEqDiff]; first | done | rfl | assumption) | simp [put_at, *]), (by first | rfl | (simp only [put_at, ↓reduceIte, Nat.reduceEqDiff]; first | done | rfl | assumption) | simp [put_at, *])⟩ ?_ ?_
        · rintro k fr D hk ⟨rfl, hw, f1, f34, f35, f36⟩ N hN
          have g0 := lt_dec hk
          have g1 := rng hk
          have g2 := up1 hk (by omega)
          have hk' : k < c.threads.length := by omega
          have g0' := lt_dec hk'
          have g1' := rng hk'
          obtain ⟨q1, A', c', q2, fl⟩ := hc'.f0 k hk
          obtain ⟨p1, B', d', p2, p3, fm⟩ := hc'.f1 k hk'
          rw [Nat.add_zero] at p2
          have hq := hb.m0 _ (List.getElem_mem hk)
          have hx := hb.m1 _ (List.getElem_mem hk')
          cases hv : threadValid c.threads[k].1 c.threads[k].2 c.codes[k] with
          | false =>
            rw [crewOk_bad hk' hk (by rw [hv]; rfl)] at h
            repeat' (first | simp -implicitDefEqProofs only [zG1,zG2,zG3,zG4,zG5,zG6,zG7,eq_self,resV,rval,X.val,binv,fillL,setR,↓reduceIte,Nat.reduceEqDiff,Nat.reduceAdd,Nat.reduceMul,Nat.reduceLeDiff,Nat.reduceLT,Nat.reduceSub,reduceCtorEq,zGq, q, f1, f34, f35, f36, g0, g1, g0', g1', q1, q2, p1, p2, p3, hv, Nat.mul_one] | (with_reducible refine threadValid_ok _ _ _ B' d' _ _ fm hx A' c' _ fl hq ?_))
            exact ⟨H, l1, h⟩
          | true =>
            repeat' (first | simp -implicitDefEqProofs only [zG1,zG2,zG3,zG4,zG5,zG6,zG7,eq_self,resV,rval,X.val,binv,fillL,setR,↓reduceIte,Nat.reduceEqDiff,Nat.reduceAdd,Nat.reduceMul,Nat.reduceLeDiff,Nat.reduceLT,Nat.reduceSub,reduceCtorEq,zGq, q, f1, f34, f35, f36, g0, g1, g0', g1', q1, q2, p1, p2, p3, hv, Nat.mul_one] | (with_reducible refine threadValid_ok _ _ _ B' d' _ _ fm hx A' c' _ fl hq ?_))
            refine for_rule c.codes[k].length (fun m fr E => E = D ∧ (∀ i (h1 : i < c.codes[k].length), i < m → quadThere c.codes[k][i] c.boxes.length = true) ∧ fr 1 = .pointer (some ⟨x1, 0, none⟩) ∧ fr 34 = .slice A0 c.codes.length c0 ∧ fr 35 = .int .i64 c.codes.length ∧ fr 36 = .int .i64 k ∧ fr 49 = .slice A' c.codes[k].length c' ∧ fr 50 = .int .i64 c.codes[k].length ∧ fr 51 = .int .i64 m)
              ⟨rfl, fun i _ hi => absurd hi (Nat.not_lt_zero _), (by first | rfl | (simp only [put_at, ↓reduceIte, Nat.reduceEqDiff]; first | done | rfl | assumption) | simp [put_at, *]), (by first | rfl | (simp only [put_at, ↓reduceIte, Nat.reduceEqDiff]; first | done | rfl | assumption) | simp [put_at, *]), (by first | rfl | (simp only [put_at, ↓reduceIte, Nat.reduceEqDiff]; first | done | rfl | assumption) | simp [put_at, *]), (by first | rfl | (simp only [put_at, ↓reduceIte, Nat.reduceEqDiff]; first | done | rfl | assumption) | simp [put_at, *]), (by first | rfl | (simp only [put_at, ↓reduceIte, Nat.reduceEqDiff]; first | done | rfl | assumption) | simp [put_at, *]), (by first | rfl | (simp only [put_at, ↓reduceIte, Nat.reduceEqDiff]; first | done | rfl | assumption) | simp [put_at, *]), (by first | rfl | (simp only [put_at, ↓reduceIte, Nat.reduceEqDiff]; first | done | rfl | assumption) | simp [put_at, *])⟩ ?_ ?_
            · rintro m fr E hm ⟨rfl, hz, f1, f34, f35, f36, f49, f50, f51⟩ N hN
              have g3 := lt_dec hm
              have g4 := rng hm
              have g5 := up1 hm (by omega)
              have p5 := fl.rdq hm
              have pA := fl.qd_is hm
              repeat' (first | simp -implicitDefEqProofs only [zG1,zG2,zG3,zG4,zG5,zG6,zG7,eq_self,resV,rval,X.val,binv,fillL,setR,↓reduceIte,Nat.reduceEqDiff,Nat.reduceAdd,Nat.reduceMul,Nat.reduceLeDiff,Nat.reduceLT,Nat.reduceSub,reduceCtorEq,zGp, f1, f34, f35, f36, f49, f50, f51, g3, g4, p5, pA])
              refine new_intro (fun x6 hx6 => ?_)
              have l6' := (AHeap.le.refl E).fresh hx6 ⟨[.int .i64 0, .int .i64 0, .int .i64 0, .int .i64 0, .int .i64 0], true, 111, 5⟩
              have k6' := (Kn.same E x6 ⟨[.int .i64 0, .int .i64 0, .int .i64 0, .int .i64 0, .int .i64 0], true, 111, 5⟩)
              have k1' := k1.trans l6'
              have n16 : ¬ x1 ∈ [x6] := fun hm => by
                simp only [List.mem_cons, List.not_mem_nil, or_false] at hm; subst hm; exact k1.ne hx6
              generalize E.set x6 _ = F0 at l6' k6' k1' ⊢
              repeat' (first | simp -implicitDefEqProofs only [zG1,zG2,zG3,zG4,zG5,zG6,zG7,eq_self,resV,rval,X.val,binv,fillL,setR,↓reduceIte,Nat.reduceEqDiff,Nat.reduceAdd,Nat.reduceMul,Nat.reduceLeDiff,Nat.reduceLT,Nat.reduceSub,reduceCtorEq,zGp, f1, f34, f35, f36, f49, f50, f51])
              refine st_own k6' [.int .i64 c.codes[k][m].op, .int .i64 c.codes[k][m].dst, .int .i64 c.codes[k][m].a, .int .i64 c.codes[k][m].b, .int .i64 c.codes[k][m].n] rfl rfl (by simp) (by simp [ocI]) (fun F hcF k6 => ?_)
              simp only [setR, List.set_cons_zero, List.set_cons_succ] at k6
              have l6 := hcF.keep l6' (New.one hx6)
              have r6 : F.rdn (some ⟨x6, 0, none⟩) 5 = some [.int .i64 c.codes[k][m].op, .int .i64 c.codes[k][m].dst, .int .i64 c.codes[k][m].a, .int .i64 c.codes[k][m].b, .int .i64 c.codes[k][m].n] := k6.rdn (l := [.int .i64 c.codes[k][m].op, .int .i64 c.codes[k][m].dst, .int .i64 c.codes[k][m].a, .int .i64 c.codes[k][m].b, .int .i64 c.codes[k][m].n]) (o := 0) fun j _ => by rw [Nat.zero_add]
              have q3 := (k1'.chg hcF n16).cell (j := 2) rfl
              cases hr : quadThere c.codes[k][m] c.boxes.length with
              | true =>
                repeat' (first | simp -implicitDefEqProofs only [zG1,zG2,zG3,zG4,zG5,zG6,zG7,eq_self,resV,rval,X.val,binv,fillL,setR,↓reduceIte,Nat.reduceEqDiff,Nat.reduceAdd,Nat.reduceMul,Nat.reduceLeDiff,Nat.reduceLT,Nat.reduceSub,reduceCtorEq,zGp, q3, r6, f1, f34, f35, f36, f49, f50, f51, g3, g4, g5, p5, pA, hr] | ((with_reducible refine rows_intro (fun _ hb => ?_)); try simp only [set_none, ne_eq] at hb) | ((with_reducible refine new_intro (fun _ hb => ?_)); try simp only [set_none, ne_eq] at hb) | (with_reducible refine draw_same ?_) | ((with_reducible refine gd_split ?_ (fun _ => ?_) (fun _ => ?_)); exact rfl) | ((with_reducible refine td_split ?_ (fun _ => ?_) (fun _ => ?_)); exact rfl) | (with_reducible refine c_split (fun _ => ?_) (fun _ => ?_)) | (with_reducible refine boxThere_ok _ _ _ c.codes[k][m] c.boxes.length ?_))
                refine hN _ _ E l6 ⟨rfl, fun i hi hik => ?_, (by first | rfl | (simp only [put_at, ↓reduceIte, Nat.reduceEqDiff]; first | done | rfl | assumption) | simp [put_at, *]), (by first | rfl | (simp only [put_at, ↓reduceIte, Nat.reduceEqDiff]; first | done | rfl | assumption) | simp [put_at, *]), (by first | rfl | (simp only [put_at, ↓reduceIte, Nat.reduceEqDiff]; first | done | rfl | assumption) | simp [put_at, *]), (by first | rfl | (simp only [put_at, ↓reduceIte, Nat.reduceEqDiff]; first | done | rfl | assumption) | simp [put_at, *]), (by first | rfl | (simp only [put_at, ↓reduceIte, Nat.reduceEqDiff]; first | done | rfl | assumption) | simp [put_at, *]), (by first | rfl | (simp only [put_at, ↓reduceIte, Nat.reduceEqDiff]; first | done | rfl | assumption) | simp [put_at, *]), (by first | rfl | (simp only [put_at, ↓reduceIte, Nat.reduceEqDiff]; first | done | rfl | assumption) | simp [put_at, *])⟩
                rcases Nat.lt_succ_iff_lt_or_eq.1 hik with hik | rfl
                · exact hz i hi hik
                · exact hr
              | false =>
                have e : codeThere c.codes[k] c.boxes.length = false := by
                  rw [codeThere, List.all_eq_false]
                  exact ⟨c.codes[k][m], List.getElem_mem hm, by rw [hr]; simp⟩
                rw [crewOk_bad hk' hk (by rw [e, Bool.and_false])] at h
                repeat' (first | simp -implicitDefEqProofs only [zG1,zG2,zG3,zG4,zG5,zG6,zG7,eq_self,resV,rval,X.val,binv,fillL,setR,↓reduceIte,Nat.reduceEqDiff,Nat.reduceAdd,Nat.reduceMul,Nat.reduceLeDiff,Nat.reduceLT,Nat.reduceSub,reduceCtorEq,zGp, q3, r6, f1, f34, f35, f36, f49, f50, f51, g3, g4, g5, p5, pA, hr] | ((with_reducible refine rows_intro (fun _ hb => ?_)); try simp only [set_none, ne_eq] at hb) | ((with_reducible refine new_intro (fun _ hb => ?_)); try simp only [set_none, ne_eq] at hb) | (with_reducible refine draw_same ?_) | ((with_reducible refine gd_split ?_ (fun _ => ?_) (fun _ => ?_)); exact rfl) | ((with_reducible refine td_split ?_ (fun _ => ?_) (fun _ => ?_)); exact rfl) | (with_reducible refine c_split (fun _ => ?_) (fun _ => ?_)) | (with_reducible refine boxThere_ok _ _ _ c.codes[k][m] c.boxes.length ?_))
                exact ⟨H, l1.trans l6, h⟩
            · rintro fr E ⟨rfl, hz, f1, f34, f35, f36, f49, f50, f51⟩ N
              have g3 : decide ((c.codes[k].length : Int) < (c.codes[k].length : Int)) = false := by simp
              have e : codeThere c.codes[k] c.boxes.length = true := by
                rw [codeThere, List.all_eq_true]
                intro q hq
                obtain ⟨i, hi, rfl⟩ := List.getElem_of_mem hq
                exact hz i hi hi
              repeat' (first | simp -implicitDefEqProofs only [zG1,zG2,zG3,zG4,zG5,zG6,zG7,eq_self,resV,rval,X.val,binv,fillL,setR,↓reduceIte,Nat.reduceEqDiff,Nat.reduceAdd,Nat.reduceMul,Nat.reduceLeDiff,Nat.reduceLT,Nat.reduceSub,reduceCtorEq,zGq, f1, f34, f35, f36, f49, f50, f51, g2, g3] | ((with_reducible refine rows_intro (fun _ hb => ?_)); try simp only [set_none, ne_eq] at hb) | ((with_reducible refine new_intro (fun _ hb => ?_)); try simp only [set_none, ne_eq] at hb) | (with_reducible refine draw_same ?_) | ((with_reducible refine gd_split ?_ (fun _ => ?_) (fun _ => ?_)); exact rfl) | ((with_reducible refine td_split ?_ (fun _ => ?_) (fun _ => ?_)); exact rfl) | (with_reducible refine c_split (fun _ => ?_) (fun _ => ?_)))
              refine hN _ _ _ (.refl _) ⟨rfl, fun i h1 h2 hik => ?_, (by first | rfl | (simp only [put_at, ↓reduceIte, Nat.reduceEqDiff]; first | done | rfl | assumption) | simp [put_at, *]), (by first | rfl | (simp only [put_at, ↓reduceIte, Nat.reduceEqDiff]; first | done | rfl | assumption) | simp [put_at, *]), (by first | rfl | (simp only [put_at, ↓reduceIte, Nat.reduceEqDiff]; first | done | rfl | assumption) | simp [put_at, *]), (by first | rfl | (simp only [put_at, ↓reduceIte, Nat.reduceEqDiff]; first | done | rfl | assumption) | simp [put_at, *])⟩
              rcases Nat.lt_succ_iff_lt_or_eq.1 hik with hik | rfl
              · exact hw i h1 h2 hik
              · rw [hv, e]; rfl
        · rintro fr D ⟨rfl, hw, f1, f34, f35, f36⟩ N
          have g0 : decide ((c.codes.length : Int) < (c.codes.length : Int)) = false := by simp
          rw [crewOk_good (by rw [crewPre, e1, e3, decide_eq_true hl]; rfl) fun i h1 h2 => hw i h1 h2 h2] at h
          repeat' (first | simp -implicitDefEqProofs only [zG1,zG2,zG3,zG4,zG5,zG6,zG7,eq_self,resV,rval,X.val,binv,fillL,setR,↓reduceIte,Nat.reduceEqDiff,Nat.reduceAdd,Nat.reduceMul,Nat.reduceLeDiff,Nat.reduceLT,Nat.reduceSub,reduceCtorEq,zGq, f1, f34, f35, f36, g0] | ((with_reducible refine rows_intro (fun _ hb => ?_)); try simp only [set_none, ne_eq] at hb) | ((with_reducible refine new_intro (fun _ hb => ?_)); try simp only [set_none, ne_eq] at hb) | (with_reducible refine draw_same ?_) | ((with_reducible refine gd_split ?_ (fun _ => ?_) (fun _ => ?_)); exact rfl) | ((with_reducible refine td_split ?_ (fun _ => ?_) (fun _ => ?_)); exact rfl) | (with_reducible refine c_split (fun _ => ?_) (fun _ => ?_)))
          exact ⟨H, l1, h⟩
end Go.Proofs.Ytfjhjfddgdokgaa
namespace Go.Proofs.Ytfjhjfddgdokgaa
set_option linter.all false
open Go Go.RowKit
set_option maxRecDepth 100000
variable (w0 : World)
theorem crewValidS_ok (H : AHeap) (K : Value → AHeap → Prop) (c : Cr) (A0 : Option Addr) (c0 : Nat) (A1 : Option Addr) (c1 : Nat) (A2 : Option Addr) (c2 : Nat) (A5 : Option Addr) (c5 : Nat) (hc : CrR H c A0 A1 A2 A5) (hb : CrB 1048576 c) (h : K (.bool (crewOk c)) H) :
    ACalls Try.prog w0 33 [crv c A0 c0 A1 c1 A2 c2 A5 c5] H K := by
  have nc := hb.n0
  have nt := hb.n1
  have nb := hb.n2
  have n5 := hb.n5
  have w1 : IntKind.i64.wrap ((c.threads.length : Int) - 1) = (c.threads.length : Int) - 1 := wrap_i64 (by omega) (by omega)
  refine acalls_of_sx mix Try.func33 of33 (by simp [ir33]) ?_; rw [ir33]; (try delta qT qI qC qO qM qG)
  repeat' (first | simp -implicitDefEqProofs only [zG1,zG2,zG3,zG4,zG5,zG6,zG7,eq_self,resV,rval,X.val,binv,fillL,setR,↓reduceIte,Nat.reduceEqDiff,Nat.reduceAdd,Nat.reduceMul,Nat.reduceLeDiff,Nat.reduceLT,Nat.reduceSub,reduceCtorEq,zGq])
  refine new_intro (fun x1 hx1 => ?_)
  have l1 := (AHeap.le.refl H).fresh hx1 ⟨crc c A0 c0 A1 c1 A2 c2 A5 c5, true, 62, 6⟩
  have k1 := Kn.same H x1 ⟨crc c A0 c0 A1 c1 A2 c2 A5 c5, true, 62, 6⟩
  generalize H.set x1 _ = C at l1 k1 ⊢
  have q := kn6 k1
  have hc' := hc.le l1
  cases e1 : (decide ((1 : Int) ≤ c.threads.length) && decide ((c.threads.length : Int) ≤ 3)) with
  | false =>
    have hF : crewPre c = false := by
      by_cases hl : c.threads.length = c.codes.length
      · simp only [crewPre, turnsOk, ← hl]; simp only [e1, Bool.false_and]
      · simp only [crewPre, decide_eq_false hl, Bool.and_false, Bool.false_and]
    rw [crewOk_pre hF] at h
    repeat' (first | simp -implicitDefEqProofs only [zG1,zG2,zG3,zG4,zG5,zG6,zG7,eq_self,resV,rval,X.val,binv,fillL,setR,↓reduceIte,Nat.reduceEqDiff,Nat.reduceAdd,Nat.reduceMul,Nat.reduceLeDiff,Nat.reduceLT,Nat.reduceSub,reduceCtorEq,zGq, q, w1, e1] | (with_reducible refine l6In_ok _ _ _ _ _ _ ?_) | (with_reducible refine l15Boxes_ok _ _ _ A2 c2 _ hc'.f2 hb.n2 hb.m2 ?_))
    exact ⟨H, l1, h⟩
  | true =>
  by_cases hl : c.threads.length = c.codes.length
  case neg =>
    have e2 : ((c.codes.length : Int) != (c.threads.length : Int)) = true := by simp; omega
    rw [crewOk_pre (by simp only [crewPre, decide_eq_false hl, Bool.and_false, Bool.false_and])] at h
    repeat' (first | simp -implicitDefEqProofs only [zG1,zG2,zG3,zG4,zG5,zG6,zG7,eq_self,resV,rval,X.val,binv,fillL,setR,↓reduceIte,Nat.reduceEqDiff,Nat.reduceAdd,Nat.reduceMul,Nat.reduceLeDiff,Nat.reduceLT,Nat.reduceSub,reduceCtorEq,zGq, q, w1, e1, e2] | (with_reducible refine l6In_ok _ _ _ _ _ _ ?_) | (with_reducible refine l15Boxes_ok _ _ _ A2 c2 _ hc'.f2 hb.n2 hb.m2 ?_))
    exact ⟨H, l1, h⟩
  case pos =>
  have e2 : ((c.codes.length : Int) != (c.threads.length : Int)) = false := by simp; omega
  cases e3 : boxesOk c.boxes with
  | false =>
    rw [crewOk_pre (by rw [crewPre, e3, Bool.and_false])] at h
    repeat' (first | simp -implicitDefEqProofs only [zG1,zG2,zG3,zG4,zG5,zG6,zG7,eq_self,resV,rval,X.val,binv,fillL,setR,↓reduceIte,Nat.reduceEqDiff,Nat.reduceAdd,Nat.reduceMul,Nat.reduceLeDiff,Nat.reduceLT,Nat.reduceSub,reduceCtorEq,zGq, q, w1, e1, e2, e3] | (with_reducible refine l6In_ok _ _ _ _ _ _ ?_) | (with_reducible refine l15Boxes_ok _ _ _ A2 c2 _ hc'.f2 hb.n2 hb.m2 ?_))
    exact ⟨H, l1, h⟩
  | true =>
  cases e4 : (decide ((0 : Int) ≤ c.turn) && decide (c.turn ≤ (c.threads.length : Int) - 1)) with
  | false =>
    have hF : turnsOk c.codes.length c.turn c.last c.log = false := by
      cases hT : turnsOk c.codes.length c.turn c.last c.log with
      | false => rfl
      | true =>
        simp only [turnsOk, Bool.and_eq_true, decide_eq_true_eq] at hT
        simp only [Bool.and_eq_false_iff, decide_eq_false_iff_not] at e4
        rcases e4 with e4 | e4 <;> omega
    rw [crewOk_pre (by rw [crewPre, hF]; rfl)] at h
    repeat' (first | simp -implicitDefEqProofs only [zG1,zG2,zG3,zG4,zG5,zG6,zG7,eq_self,resV,rval,X.val,binv,fillL,setR,↓reduceIte,Nat.reduceEqDiff,Nat.reduceAdd,Nat.reduceMul,Nat.reduceLeDiff,Nat.reduceLT,Nat.reduceSub,reduceCtorEq,zGq, q, w1, e1, e2, e3, e4] | (with_reducible refine l6In_ok _ _ _ _ _ _ ?_) | (with_reducible refine l15Boxes_ok _ _ _ A2 c2 _ hc'.f2 hb.n2 hb.m2 ?_))
    exact ⟨H, l1, h⟩
  | true =>
  cases e5 : (decide ((0 : Int) ≤ c.last) && decide (c.last ≤ (c.threads.length : Int))) with
  | false =>
    have hF : turnsOk c.codes.length c.turn c.last c.log = false := by
      cases hT : turnsOk c.codes.length c.turn c.last c.log with
      | false => rfl
      | true =>
        simp only [turnsOk, Bool.and_eq_true, decide_eq_true_eq] at hT
        simp only [Bool.and_eq_false_iff, decide_eq_false_iff_not] at e5
        rcases e5 with e5 | e5 <;> omega
    rw [crewOk_pre (by rw [crewPre, hF]; rfl)] at h
    repeat' (first | simp -implicitDefEqProofs only [zG1,zG2,zG3,zG4,zG5,zG6,zG7,eq_self,resV,rval,X.val,binv,fillL,setR,↓reduceIte,Nat.reduceEqDiff,Nat.reduceAdd,Nat.reduceMul,Nat.reduceLeDiff,Nat.reduceLT,Nat.reduceSub,reduceCtorEq,zGq, q, w1, e1, e2, e3, e4, e5] | (with_reducible refine l6In_ok _ _ _ _ _ _ ?_) | (with_reducible refine l15Boxes_ok _ _ _ A2 c2 _ hc'.f2 hb.n2 hb.m2 ?_))
    exact ⟨H, l1, h⟩
  | true =>
  have hT : turnsOk c.codes.length c.turn c.last c.log = words c.log := by
    simp only [Bool.and_eq_true, decide_eq_true_eq] at e1 e4 e5
    rw [turnsOk, decide_eq_true (by omega), decide_eq_true (by omega), decide_eq_true (by omega), decide_eq_true (by omega), decide_eq_true (by omega), decide_eq_true (by omega)]
    rfl
  repeat' (first | simp -implicitDefEqProofs only [zG1,zG2,zG3,zG4,zG5,zG6,zG7,eq_self,resV,rval,X.val,binv,fillL,setR,↓reduceIte,Nat.reduceEqDiff,Nat.reduceAdd,Nat.reduceMul,Nat.reduceLeDiff,Nat.reduceLT,Nat.reduceSub,reduceCtorEq,zGq, q, w1, e1, e2, e3, e4, e5] | (with_reducible refine l6In_ok _ _ _ _ _ _ ?_) | (with_reducible refine l15Boxes_ok _ _ _ A2 c2 _ hc'.f2 hb.n2 hb.m2 ?_))
  refine for_rule c.threads.length (fun k fr D => D = C ∧ (∀ i (h1 : i < c.threads.length) (h2 : i < c.codes.length), i < k → (threadValid c.threads[i].1 c.threads[i].2 c.codes[i] && codeThere c.codes[i] c.boxes.length) = true) ∧ fr 1 = .pointer (some ⟨x1, 0, none⟩) ∧ fr 3 = .int .i64 c.threads.length ∧ fr 4 = .int .i64 k)
    ⟨rfl, fun i _ _ hi => absurd hi (Nat.not_lt_zero _), (by first | rfl | (simp only [put_at, ↓reduceIte, Nat.reduceEqDiff]; first | done | rfl | assumption) | simp [put_at, *]), (by first | rfl | (simp only [put_at, ↓reduceIte, Nat.reduceEqDiff]; first | done | rfl | assumption) | simp [put_at, *]), (by first | rfl | (simp only [put_at, ↓reduceIte, Nat.reduceEqDiff]; first | done | rfl | assumption) | simp [put_at, *])⟩ ?_ ?_
  · rintro k fr D hk' ⟨rfl, hw, f1, f3, f4⟩ N hN
    have g0 := lt_dec hk'
    have g1 := rng hk'
    have g2 := up1 hk' (by omega)
    have hk : k < c.codes.length := by omega
    have g0' := lt_dec hk
    have g1' := rng hk
    obtain ⟨q1, A', c', q2, fl⟩ := hc'.f0 k hk
    obtain ⟨p1, B', d', p2, p3, fm⟩ := hc'.f1 k hk'
    rw [Nat.add_zero] at p2
    have hq := hb.m0 _ (List.getElem_mem hk)
    have hx := hb.m1 _ (List.getElem_mem hk')
    cases hv : threadValid c.threads[k].1 c.threads[k].2 c.codes[k] with
    | false =>
      rw [crewOk_bad hk' hk (by rw [hv]; rfl)] at h
      repeat' (first | simp -implicitDefEqProofs only [zG1,zG2,zG3,zG4,zG5,zG6,zG7,eq_self,resV,rval,X.val,binv,fillL,setR,↓reduceIte,Nat.reduceEqDiff,Nat.reduceAdd,Nat.reduceMul,Nat.reduceLeDiff,Nat.reduceLT,Nat.reduceSub,reduceCtorEq,zGq, q, f1, f3, f4, g0, g1, g0', g1', q1, q2, p1, p2, p3, hv, Nat.mul_one] | ((with_reducible refine rows_intro (fun _ hb => ?_)); try simp only [set_none, ne_eq] at hb) | ((with_reducible refine new_intro (fun _ hb => ?_)); try simp only [set_none, ne_eq] at hb) | (with_reducible refine draw_same ?_) | ((with_reducible refine gd_split ?_ (fun _ => ?_) (fun _ => ?_)); exact rfl) | ((with_reducible refine td_split ?_ (fun _ => ?_) (fun _ => ?_)); exact rfl) | (with_reducible refine c_split (fun _ => ?_) (fun _ => ?_)) | (with_reducible refine threadValidS_ok _ _ _ B' d' _ _ fm hx A' c' _ fl hq ?_))
      exact ⟨H, l1, h⟩
    | true =>
      cases hr : codeThere c.codes[k] c.boxes.length with
      | false =>
        rw [crewOk_bad hk' hk (by rw [hr, Bool.and_false])] at h
        repeat' (first | simp -implicitDefEqProofs only [zG1,zG2,zG3,zG4,zG5,zG6,zG7,eq_self,resV,rval,X.val,binv,fillL,setR,↓reduceIte,Nat.reduceEqDiff,Nat.reduceAdd,Nat.reduceMul,Nat.reduceLeDiff,Nat.reduceLT,Nat.reduceSub,reduceCtorEq,zGq, q, f1, f3, f4, g0, g1, g0', g1', q1, q2, p1, p2, p3, hv, hr, Nat.mul_one] | ((with_reducible refine rows_intro (fun _ hb => ?_)); try simp only [set_none, ne_eq] at hb) | ((with_reducible refine new_intro (fun _ hb => ?_)); try simp only [set_none, ne_eq] at hb) | (with_reducible refine draw_same ?_) | ((with_reducible refine gd_split ?_ (fun _ => ?_) (fun _ => ?_)); exact rfl) | ((with_reducible refine td_split ?_ (fun _ => ?_) (fun _ => ?_)); exact rfl) | (with_reducible refine c_split (fun _ => ?_) (fun _ => ?_)) | (with_reducible refine threadValidS_ok _ _ _ B' d' _ _ fm hx A' c' _ fl hq ?_) | (with_reducible refine l24Code_ok _ _ _ A' c' _ _ fl hq ?_))
        exact ⟨H, l1, h⟩
      | true =>
        repeat' (first | simp -implicitDefEqProofs only [zG1,zG2,zG3,zG4,zG5,zG6,zG7,eq_self,resV,rval,X.val,binv,fillL,setR,↓reduceIte,Nat.reduceEqDiff,Nat.reduceAdd,Nat.reduceMul,Nat.reduceLeDiff,Nat.reduceLT,Nat.reduceSub,reduceCtorEq,zGq, q, f1, f3, f4, g0, g1, g2, g0', g1', q1, q2, p1, p2, p3, hv, hr, Nat.mul_one] | ((with_reducible refine rows_intro (fun _ hb => ?_)); try simp only [set_none, ne_eq] at hb) | ((with_reducible refine new_intro (fun _ hb => ?_)); try simp only [set_none, ne_eq] at hb) | (with_reducible refine draw_same ?_) | ((with_reducible refine gd_split ?_ (fun _ => ?_) (fun _ => ?_)); exact rfl) | ((with_reducible refine td_split ?_ (fun _ => ?_) (fun _ => ?_)); exact rfl) | (with_reducible refine c_split (fun _ => ?_) (fun _ => ?_)) | (with_reducible refine threadValidS_ok _ _ _ B' d' _ _ fm hx A' c' _ fl hq ?_) | (with_reducible refine l24Code_ok _ _ _ A' c' _ _ fl hq ?_))
        refine hN _ _ _ (.refl _) ⟨rfl, fun i h1 h2 hik => ?_, (by first | rfl | (simp only [put_at, ↓reduceIte, Nat.reduceEqDiff]; first | done | rfl | assumption) | simp [put_at, *]), (by first | rfl | (simp only [put_at, ↓reduceIte, Nat.reduceEqDiff]; first | done | rfl | assumption) | simp [put_at, *]), (by first | rfl | (simp only [put_at, ↓reduceIte, Nat.reduceEqDiff]; first | done | rfl | assumption) | simp [put_at, *])⟩
        rcases Nat.lt_succ_iff_lt_or_eq.1 hik with hik | rfl
        · exact hw i h1 h2 hik
        · rw [hv, hr]; rfl
  · rintro fr D ⟨rfl, hw, f1, f3, f4⟩ N
    have g0 : decide ((c.threads.length : Int) < (c.threads.length : Int)) = false := by simp
    repeat' (first | simp -implicitDefEqProofs only [zG1,zG2,zG3,zG4,zG5,zG6,zG7,eq_self,resV,rval,X.val,binv,fillL,setR,↓reduceIte,Nat.reduceEqDiff,Nat.reduceAdd,Nat.reduceMul,Nat.reduceLeDiff,Nat.reduceLT,Nat.reduceSub,reduceCtorEq,zGq, q, f1, f3, f4, g0] | ((with_reducible refine rows_intro (fun _ hb => ?_)); try simp only [set_none, ne_eq] at hb) | ((with_reducible refine new_intro (fun _ hb => ?_)); try simp only [set_none, ne_eq] at hb) | (with_reducible refine draw_same ?_) | ((with_reducible refine gd_split ?_ (fun _ => ?_) (fun _ => ?_)); exact rfl) | ((with_reducible refine td_split ?_ (fun _ => ?_) (fun _ => ?_)); exact rfl) | (with_reducible refine c_split (fun _ => ?_) (fun _ => ?_)) | (with_reducible refine l4WordsL_ok _ _ _ A5 c5 _ hc'.f5 n5 ?_))
    cases hW : words c.log with
    | false =>
      rw [crewOk_pre (by rw [crewPre, hT, hW]; rfl)] at h
      exact ⟨H, l1, h⟩
    | true =>
      rw [crewOk_good (by rw [crewPre, hT, hW, e3, decide_eq_true hl]; rfl) fun i h1 h2 => hw i h1 h2 h1] at h
      exact ⟨H, l1, h⟩
end Go.Proofs.Ytfjhjfddgdokgaa
namespace Go.Proofs.Ytfjhjfddgdokgaa
set_option linter.all false
open Go Go.RowKit Go.Joins Go.ChangeShapes Go.WideShapes Go.ChangeAt Go.Deep
set_option linter.unusedVariables false
set_option maxRecDepth 100000
theorem lawCrewValid_ok (w0 : World) (H : AHeap) (K : Value → AHeap → Prop) (c : Cr) (A0 : Option Addr) (c0 : Nat) (A1 : Option Addr) (c1 : Nat) (A2 : Option Addr) (c2 : Nat) (A5 : Option Addr) (c5 : Nat) (hc : CrR H c A0 A1 A2 A5) (hm : CrB maxLen c) (h : ∀ H', K (.bool true) H') :
    ACalls Try.prog w0 6 [crv c A0 c0 A1 c1 A2 c2 A5 c5] H K := by
  have bx : ∀ b : Bool, (b != b) = false := fun b => by cases b <;> rfl
  refine acalls_of_sx mix Try.func6 of6 (by simp [ir6]) ?_; rw [ir6]; (try delta qT qI qC qO qM qG)
  repeat' (first | simp -implicitDefEqProofs only [zG1,zG2,zG3,zG4,zG5,zG6,zG7,eq_self,resV,rval,X.val,binv,fillL,setR,↓reduceIte,Nat.reduceEqDiff,Nat.reduceAdd,Nat.reduceMul,Nat.reduceLeDiff,Nat.reduceLT,Nat.reduceSub,reduceCtorEq,zGp])
  refine new_intro (fun x1 hx1 => ?_)
  have l1 := (AHeap.le.refl H).fresh hx1 ⟨crc c A0 c0 A1 c1 A2 c2 A5 c5, true, 56, 6⟩
  have k1 := Kn.same H x1 ⟨crc c A0 c0 A1 c1 A2 c2 A5 c5, true, 56, 6⟩
  generalize H.set x1 _ = C at l1 k1 ⊢
  have rd6 : ∀ {D : AHeap} {x : Nat} {t : TypeId} {v0 v1 v2 v3 v4 v5 : Value}, Kn D x ⟨[v0, v1, v2, v3, v4, v5], true, t, 6⟩ → D.rdn (some ⟨x, 0, none⟩) 6 = some [v0, v1, v2, v3, v4, v5] := fun k => k.rdn (l := [_, _, _, _, _, _]) (o := 0) fun j _ => by rw [Nat.zero_add]
  have r1 := rd6 k1
  by_cases hbig : (1048576 : Int) < c.size
  · have d1 : decide ((-1 : Int) < 0) = true := by decide
    have hbig' := eq_true hbig
    repeat' (first | simp -implicitDefEqProofs only [zG1,zG2,zG3,zG4,zG5,zG6,zG7,eq_self,resV,rval,X.val,binv,fillL,setR,↓reduceIte,Nat.reduceEqDiff,Nat.reduceAdd,Nat.reduceMul,Nat.reduceLeDiff,Nat.reduceLT,Nat.reduceSub,reduceCtorEq,zGp, r1, hbig', d1, if_true] | ((with_reducible refine rows_intro (fun _ hb => ?_)); try simp only [set_none, ne_eq] at hb) | ((with_reducible refine new_intro (fun _ hb => ?_)); try simp only [set_none, ne_eq] at hb) | (with_reducible refine draw_same ?_) | ((with_reducible refine gd_split ?_ (fun _ => ?_) (fun _ => ?_)); exact rfl) | ((with_reducible refine td_split ?_ (fun _ => ?_) (fun _ => ?_)); exact rfl) | (with_reducible refine c_split (fun _ => ?_) (fun _ => ?_)) | (with_reducible refine szCrew_ok w0 _ _ c A0 c0 A1 c1 A2 c2 A5 c5 (hc.le l1) hm 1048576 (by decide) (by decide) ?_))
    exact ret_same (h _)
  · have d1 : decide ((1048576 : Int) - c.size < 0) = false := by simp; omega
    have hb : CrB 1048576 c := CrB.of_size (by omega)
    have hbig' := eq_false hbig
    repeat' (first | simp -implicitDefEqProofs only [zG1,zG2,zG3,zG4,zG5,zG6,zG7,eq_self,resV,rval,X.val,binv,fillL,setR,↓reduceIte,Nat.reduceEqDiff,Nat.reduceAdd,Nat.reduceMul,Nat.reduceLeDiff,Nat.reduceLT,Nat.reduceSub,reduceCtorEq,zGp, r1, hbig', d1, if_false] | ((with_reducible refine rows_intro (fun _ hb => ?_)); try simp only [set_none, ne_eq] at hb) | ((with_reducible refine new_intro (fun _ hb => ?_)); try simp only [set_none, ne_eq] at hb) | (with_reducible refine draw_same ?_) | ((with_reducible refine gd_split ?_ (fun _ => ?_) (fun _ => ?_)); exact rfl) | ((with_reducible refine td_split ?_ (fun _ => ?_) (fun _ => ?_)); exact rfl) | (with_reducible refine c_split (fun _ => ?_) (fun _ => ?_)) | (with_reducible refine szCrew_ok w0 _ _ c A0 c0 A1 c1 A2 c2 A5 c5 (hc.le l1) hm 1048576 (by decide) (by decide) ?_))
    refine toCrew_own w0 _ _ c A0 c0 A1 c1 A2 c2 A5 c5 (hc.le l1) hb (fun v0 v1 v2 v5 b0 b1 b2 b5 C2 l2 o2 _ _ _ _ => ?_)
    obtain ⟨B0, e0, B1, e1, B2, e2, B5, e5, rfl, rfl, rfl, rfl, hB⟩ := o2.crR
    have L2 := l1.trans l2
    have k12 := k1.trans l2
    have r12 := rd6 k12
    repeat' (first | simp -implicitDefEqProofs only [zG1,zG2,zG3,zG4,zG5,zG6,zG7,eq_self,resV,rval,X.val,binv,fillL,setR,↓reduceIte,Nat.reduceEqDiff,Nat.reduceAdd,Nat.reduceMul,Nat.reduceLeDiff,Nat.reduceLT,Nat.reduceSub,reduceCtorEq,zGp, r12] | ((with_reducible refine rows_intro (fun _ hb => ?_)); try simp only [set_none, ne_eq] at hb) | ((with_reducible refine new_intro (fun _ hb => ?_)); try simp only [set_none, ne_eq] at hb) | (with_reducible refine draw_same ?_) | ((with_reducible refine gd_split ?_ (fun _ => ?_) (fun _ => ?_)); exact rfl) | ((with_reducible refine td_split ?_ (fun _ => ?_) (fun _ => ?_)); exact rfl) | (with_reducible refine c_split (fun _ => ?_) (fun _ => ?_)) | (with_reducible refine crewValidS_ok w0 _ _ c B0 e0 B1 e1 B2 e2 B5 e5 hB hb ?_))
    refine toCrew_own w0 _ _ c A0 c0 A1 c1 A2 c2 A5 c5 (hc.le L2) hb (fun v0 v1 v2 v5 b0 b1 b2 b5 C3 l3 o3 _ _ _ _ => ?_)
    obtain ⟨D0, g0, D1, g1, D2, g2, D5, g5, rfl, rfl, rfl, rfl, hD⟩ := o3.crR
    have L3 := L2.trans l3
    have k13 := k12.trans l3
    repeat' (first | simp -implicitDefEqProofs only [zG1,zG2,zG3,zG4,zG5,zG6,zG7,eq_self,resV,rval,X.val,binv,fillL,setR,↓reduceIte,Nat.reduceEqDiff,Nat.reduceAdd,Nat.reduceMul,Nat.reduceLeDiff,Nat.reduceLT,Nat.reduceSub,reduceCtorEq,zGp])
    refine new_intro (fun x5 hx5 => ?_)
    have l5 := (AHeap.le.refl C3).fresh hx5 ⟨crz, true, 62, 6⟩
    have k5 := Kn.same C3 x5 ⟨crz, true, 62, 6⟩
    have L5 := L3.trans l5
    have k15 := k13.trans l5
    have n15 : ¬ x1 ∈ [x5] := fun hm => by
      simp only [List.mem_cons, List.not_mem_nil, or_false] at hm; subst hm; exact k13.ne hx5
    generalize C3.set x5 _ = C5 at l5 L5 k5 k15 ⊢
    repeat' (first | simp -implicitDefEqProofs only [zG1,zG2,zG3,zG4,zG5,zG6,zG7,eq_self,resV,rval,X.val,binv,fillL,setR,↓reduceIte,Nat.reduceEqDiff,Nat.reduceAdd,Nat.reduceMul,Nat.reduceLeDiff,Nat.reduceLT,Nat.reduceSub,reduceCtorEq,zGp])
    refine st_own k5 (crc c D0 g0 D1 g1 D2 g2 D5 g5) rfl rfl (by simp) (by simp [ocI, ocS]) (fun C6 h6 k6 => ?_)
    simp only [setR, List.set_cons_zero, List.set_cons_succ] at k6
    have l36 := h6.keep l5 (New.one hx5)
    have L6 := L3.trans l36
    have k16 := k15.chg h6 n15
    have r16 := rd6 k16
    have r56 := rd6 k6
    repeat' (first | simp -implicitDefEqProofs only [zG1,zG2,zG3,zG4,zG5,zG6,zG7,eq_self,resV,rval,X.val,binv,fillL,setR,↓reduceIte,Nat.reduceEqDiff,Nat.reduceAdd,Nat.reduceMul,Nat.reduceLeDiff,Nat.reduceLT,Nat.reduceSub,reduceCtorEq,zGp, r16, r56, bx] | ((with_reducible refine rows_intro (fun _ hb => ?_)); try simp only [set_none, ne_eq] at hb) | ((with_reducible refine new_intro (fun _ hb => ?_)); try simp only [set_none, ne_eq] at hb) | (with_reducible refine draw_same ?_) | ((with_reducible refine gd_split ?_ (fun _ => ?_) (fun _ => ?_)); exact rfl) | ((with_reducible refine td_split ?_ (fun _ => ?_) (fun _ => ?_)); exact rfl) | (with_reducible refine c_split (fun _ => ?_) (fun _ => ?_)) | (with_reducible refine crewValid_ok w0 _ _ c D0 g0 D1 g1 D2 g2 D5 g5 (hD.le l36) hb ?_))
    refine toCrew_own w0 _ _ c A0 c0 A1 c1 A2 c2 A5 c5 (hc.le L6) hb (fun v0 v1 v2 v5 b0 b1 b2 b5 C7 l7 o7 _ _ _ _ => ?_)
    obtain ⟨E0, i0, E1, i1, E2, i2, E5, i5, rfl, rfl, rfl, rfl, hE⟩ := o7.crR
    repeat' (first | simp -implicitDefEqProofs only [zG1,zG2,zG3,zG4,zG5,zG6,zG7,eq_self,resV,rval,X.val,binv,fillL,setR,↓reduceIte,Nat.reduceEqDiff,Nat.reduceAdd,Nat.reduceMul,Nat.reduceLeDiff,Nat.reduceLT,Nat.reduceSub,reduceCtorEq,zGp, l7, true_and] | ((with_reducible refine rows_intro (fun _ hb => ?_)); try simp only [set_none, ne_eq] at hb) | ((with_reducible refine new_intro (fun _ hb => ?_)); try simp only [set_none, ne_eq] at hb) | (with_reducible refine draw_same ?_) | ((with_reducible refine gd_split ?_ (fun _ => ?_) (fun _ => ?_)); exact rfl) | ((with_reducible refine td_split ?_ (fun _ => ?_) (fun _ => ?_)); exact rfl) | (with_reducible refine c_split (fun _ => ?_) (fun _ => ?_)) | (with_reducible refine eqCrew_ok w0 _ _ c D0 g0 D1 g1 D2 g2 D5 g5 E0 i0 E1 i1 E2 i2 E5 i5 (hD.le (l36.trans l7)) hE hb ?_))
    exact ret_same (h _)
namespace fnExactCrewValid
theorem lifted (os : Os) (started : os.Started) (H : Type) (enc : TypeId × Value → H) :
    ReturnsInHanded {} Try.checked os 6 .any (Rows.fnExactCrewValidSpec.pre6 enc Try.prog Try.f6 Rows.fnExactCrewValidRow.domain false) (Rows.fnExactCrewValidSpec.post enc Try.prog Try.f6 false true false false) := by
  refine returnsInHanded_of_change_sized (C := Try.checked) own started (by kernel_rfl) Try.func6
    (ChangeSpec.witness6 (enc := enc) (C := Try.checked) false ⟨#[], #[.agg #[.slice none 0 0, .slice none 0 0, .slice none 0 0, .int .i64 0, .int .i64 0, .slice none 0 0]], []⟩ 8 (by kernel_rfl) (by kernel_rfl) (by kernel_rfl) (by kernel_rfl)) ?_
  intro W base args ds gs before hval0 hW hcnd hsz0 _
  have hval : ∀ (j : Nat) t v, Try.f6.params[j]? = some t → args[j]? = some v → Value.okWide Try.prog W .any base t v := hval0
  have hW' := hW
  obtain ⟨p, q, hA0, hV, rfl, hfz, hnd⟩ := hW
  have hA : DataW.TrodAll enc Try.prog W 0 (fun _ => true) true Try.f6.params.toList args.toList ds p := hA0
  rw [Try.params6] at hA hval
  obtain ⟨v0, vs0, d0, ds0, p0, q0, hargs, rfl, rfl, h0, r0⟩ := trodAll_cons hA
  obtain ⟨rfl, rfl, rfl⟩ := trodAll_nil r0
  obtain rfl : args = #[v0] := by cases args; simp_all
  obtain ⟨rfl, rfl⟩ := trodVars_none hV
  have k0 := h0
  have lt0 : ∀ x ∈ p0, x.block < W.heap.size := by obtain ⟨m, hm⟩ := k0; exact DataW.trod_lt m _ _ _ hm
  obtain ⟨cs0, rfl, _⟩ := okWide_struct Try.underlying56 (hval 0 56 v0 rfl rfl)
  obtain ⟨cr0, a0, ca0, b0, cb0, g0, cg0, j0, cj0, hcs0, f0, hm0⟩ : ∃ (c : Cr) (A0 : Option Addr) (c0 : Nat) (A1 : Option Addr) (c1 : Nat) (A2 : Option Addr) (c2 : Nat) (A5 : Option Addr) (c5 : Nat), cs0.toList = crc c A0 c0 A1 c1 A2 c2 A5 c5 ∧ CrR (heapOf W) c A0 A1 A2 A5 ∧ CrB maxLen c := by
    obtain ⟨fuel, hf⟩ := h0
    exact open_crew Try.underlying56 ⟨rfl, rfl, rfl, rfl, rfl, rfl⟩ (by kernel_rfl) ⟨by kernel_rfl, by kernel_rfl, by kernel_rfl, by kernel_rfl, by kernel_rfl, by kernel_rfl⟩
      (open_rows Try.underlying52 (by kernel_rfl) (open_qrow Try.underlying82 Try.underlying149 (by kernel_rfl) (by kernel_rfl) Try.underlying3 ⟨rfl, rfl, rfl, rfl, rfl⟩))
      (open_pairs (.inl ⟨rfl, rfl⟩) Try.underlying53 (by kernel_rfl) (open_pair Try.underlying174 Try.underlying35 Try.underlying3 (by rw [if_pos rfl]; exact ⟨rfl, rfl⟩) ⟨rfl, rfl⟩ (by kernel_rfl) (by kernel_rfl) (by kernel_rfl)))
      (open_pairs (.inr ⟨rfl, rfl⟩) Try.underlying54 (by kernel_rfl) (open_pair Try.underlying177 Try.underlying35 Try.underlying3 (by rw [if_neg (by decide)]; exact ⟨rfl, rfl⟩) ⟨rfl, rfl⟩ (by kernel_rfl) (by kernel_rfl) (by kernel_rfl)))
      (open_int Try.underlying3) (open_int Try.underlying3) (open_irow Try.underlying35 Try.underlying3 (by kernel_rfl)) hf
  obtain ⟨cs0⟩ := cs0
  simp only at hcs0
  subst hcs0
  refine (calls_true (lawCrewValid_ok W (heapOf W) _ cr0 a0 ca0 b0 cb0 g0 cg0 j0 cj0 f0 hm0 (fun _ => rfl)) (sat_heap W)).mono fun e W' ⟨he, bel⟩ => ?_
  subst he
  exact ⟨_, rfl, _, _, _, [], _, [], hW', trodAll_mk1 (shut_bool Try.underlying4 _), (trodAll_cons_mk (Below.trod laidOut (by kernel_rfl) (of_decide_eq_true (by kernel_rfl)) k0 bel lt0) trodAll_mk0), rfl, bel.frame _, fun h => by cases h⟩
theorem over : Rows.fnExactCrewValidRow.holds Try.pinned (OpenSpec.ofChange Rows.fnExactCrewValidSpec) :=
  OpenClaim.holds_of_wide 6 Try.f6 rfl rfl rfl rfl rfl rfl rfl ⟨rfl, rfl, rfl, rfl, rfl⟩ rfl rfl rfl rfl rfl (by kernel_rfl) Try.func6 (by kernel_rfl)
    (of_decide_eq_true (by kernel_rfl)) (by unfold Func.isWrapper; first | (rw [if_pos (by decide +kernel)]; kernel_rfl) | (rw [if_neg (by decide +kernel)]; exact ⟨rfl, rfl⟩))
    (fun os started H enc _ => lifted os started H enc)
end fnExactCrewValid
theorem fnExactCrewValid_holds : Rows.FnExactCrewValidSaid := fnExactCrewValid.over
#print axioms fnExactCrewValid_holds
end Go.Proofs.Ytfjhjfddgdokgaa
