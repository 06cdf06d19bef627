/- The statement FnLiveCompiled holds for all arguments; part 4 of the texts that show it. No further condition. -/
import Derived.Test.YtjhedgoafkabiaaFnLiveCompiledP3
import Derived.Test.YtjhedgoafkabiaaRows
import Derived.WalkKit
import Derived.ProofKit
import Derived.OpenShut
import Derived.ShutString
import Derived.ChangeOld
import Derived.Below
import Derived.SizedLaws
import Derived.Lib.SmallJoins
import Derived.Deep.Slices
import Derived.Deep.Fields
import Derived.ChangeSame
namespace Go.Proofs.Ytjhedgoafkabiaa
set_option linter.all false
open Go Go.RowKit
set_option maxRecDepth 100000
variable (w0 : World) (H : AHeap) (K : Value → AHeap → Prop)
theorem liveBehind_ok (A : Option Addr) (c : Nat) (qs : List Qd) (hv : codeValid qs = true) (hx : Fl H A (qcells qs)) (B : Option Addr) (cb : Nat) (l : List Nat) (hl : l.length = qs.length) (hs : small l) (hB : Fl H B (u16s l)) (i : Nat) (hi : i < qs.length)
    (h : K (.int .u16 (behindM qs l i)) H) : ACalls Try.prog w0 67 [.slice A qs.length c, .slice B qs.length cb, .int .i64 i] H K := by
  have hc := code_at hv
  have g1 := rng hi
  have p0 := hx.quad hi
  refine acalls_of_sx mix Try.func67 of67 (by simp [ir67]) ?_; rw [ir67]; (try delta qT qI qC qO qM qG)
  repeat' (first | simp -implicitDefEqProofs only [zG1,zG2,zG3,zG4,zG5,zG6,zG7,eq_self,resV,rval,X.val,binv,fillL,setR,↓reduceIte,Nat.reduceEqDiff,Nat.reduceAdd,Nat.reduceMul,Nat.reduceLeDiff,Nat.reduceLT,Nat.reduceSub,reduceCtorEq,zGq, g1, p0, Nat.add_zero] | ((with_reducible refine rows_intro (fun _ hb => ?_)); try simp only [set_none, ne_eq] at hb) | ((with_reducible refine new_intro (fun _ hb => ?_)); try simp only [set_none, ne_eq] at hb) | (with_reducible refine draw_same ?_) | ((with_reducible refine gd_split ?_ (fun _ => ?_) (fun _ => ?_)); exact rfl) | ((with_reducible refine td_split ?_ (fun _ => ?_) (fun _ => ?_)); exact rfl) | (with_reducible refine c_split (fun _ => ?_) (fun _ => ?_)) | (with_reducible refine nextOf_ok _ _ _ qs[i] i (by omega) (rw_of fun v2 C2 bs2 l2 n2 w2 => ?_)))
  obtain ⟨A2, e2, rfl, f2⟩ := w2.fl
  have hesl := nextL_le qs[i] i
  repeat' (first | simp -implicitDefEqProofs only [zG1,zG2,zG3,zG4,zG5,zG6,zG7,eq_self,resV,rval,X.val,binv,fillL,setR,↓reduceIte,Nat.reduceEqDiff,Nat.reduceAdd,Nat.reduceMul,Nat.reduceLeDiff,Nat.reduceLT,Nat.reduceSub,reduceCtorEq,zGq] | ((with_reducible refine rows_intro (fun _ hb => ?_)); try simp only [set_none, ne_eq] at hb) | ((with_reducible refine new_intro (fun _ hb => ?_)); try simp only [set_none, ne_eq] at hb) | (with_reducible refine draw_same ?_) | ((with_reducible refine gd_split ?_ (fun _ => ?_) (fun _ => ?_)); exact rfl) | ((with_reducible refine td_split ?_ (fun _ => ?_) (fun _ => ?_)); exact rfl) | (with_reducible refine c_split (fun _ => ?_) (fun _ => ?_)))
  refine for_rule (nextL qs[i] i).length (fun k fr C' => C' = C2 ∧ fr 1 = .slice B qs.length cb ∧ fr 7 = .int .u16 ((orOf l ((nextL qs[i] i).take k) : Nat) : Int) ∧ fr 15 = .slice A2 (nextL qs[i] i).length e2 ∧ fr 16 = .int .i64 (nextL qs[i] i).length ∧ fr 17 = .int .i64 k)
    ⟨rfl, (by first | rfl | (simp only [put_at, ↓reduceIte, Nat.reduceEqDiff]; first | done | rfl | assumption) | simp [put_at, *]), (by first | rfl | (simp only [put_at, ↓reduceIte, Nat.reduceEqDiff]; first | done | rfl | assumption) | simp [put_at, *]), (by first | rfl | (simp only [put_at, ↓reduceIte, Nat.reduceEqDiff]; first | done | rfl | assumption) | simp [put_at, *]), (by first | rfl | (simp only [put_at, ↓reduceIte, Nat.reduceEqDiff]; first | done | rfl | assumption) | simp [put_at, *]), (by first | rfl | (simp only [put_at, ↓reduceIte, Nat.reduceEqDiff]; first | done | rfl | assumption) | simp [put_at, *])⟩ ?_ ?_
  · rintro k fr C' hk ⟨rfl, f1, f7, f15, f16, f17⟩ N hN
    have g0 := lt_dec hk
    have g2 := rng hk
    have g3 := up1 hk (by omega)
    have hin := next_in hv hi (List.getElem_mem hk)
    have hst := orOf_take (l := l) hk
    obtain ⟨j, hj⟩ : ∃ j : Nat, (nextL qs[i] i)[k] = (j : Int) := ⟨((nextL qs[i] i)[k]).toNat, by omega⟩
    rw [hj] at hin hst
    rw [Int.toNat_natCast] at hst
    have hjn : j < l.length := by omega
    have q1 := f2.int hk
    rw [hj] at q1
    have q2 := f2.ints_is hk
    have g4 : (0 ≤ (j : Int) ∧ (j : Int) < (qs.length : Int)) = True := by simp; omega
    have hB' := hB.le l2
    have q3 := hB' j _ (u16s_at hjn)
    have q4 := hB'.is (i := j) (by rw [u16s_len]; exact hjn)
    have e3 := u16_or_nat (orOf l ((nextL qs[i] i).take k)) (lvAt l j) (Nat.lt_trans (orOf_lt hs _) (by decide)) (Nat.lt_trans (hs _) (by decide))
    repeat' (first | simp -implicitDefEqProofs only [zG1,zG2,zG3,zG4,zG5,zG6,zG7,eq_self,resV,rval,X.val,binv,fillL,setR,↓reduceIte,Nat.reduceEqDiff,Nat.reduceAdd,Nat.reduceMul,Nat.reduceLeDiff,Nat.reduceLT,Nat.reduceSub,reduceCtorEq,zGq, f1, f7, f15, f16, f17, g0, g2, g3, g4, q1, q2, q3, q4, e3, Nat.mul_one] | ((with_reducible refine rows_intro (fun _ hb => ?_)); try simp only [set_none, ne_eq] at hb) | ((with_reducible refine new_intro (fun _ hb => ?_)); try simp only [set_none, ne_eq] at hb) | (with_reducible refine draw_same ?_) | ((with_reducible refine gd_split ?_ (fun _ => ?_) (fun _ => ?_)); exact rfl) | ((with_reducible refine td_split ?_ (fun _ => ?_) (fun _ => ?_)); exact rfl) | (with_reducible refine c_split (fun _ => ?_) (fun _ => ?_)))
    exact hN _ _ _ (.refl _) ⟨rfl, (by first | rfl | (simp only [put_at, ↓reduceIte, Nat.reduceEqDiff]; first | done | rfl | assumption) | simp [put_at, *]), by rw [hst]; exact (by first | rfl | (simp only [put_at, ↓reduceIte, Nat.reduceEqDiff]; first | done | rfl | assumption) | simp [put_at, *]), (by first | rfl | (simp only [put_at, ↓reduceIte, Nat.reduceEqDiff]; first | done | rfl | assumption) | simp [put_at, *]), (by first | rfl | (simp only [put_at, ↓reduceIte, Nat.reduceEqDiff]; first | done | rfl | assumption) | simp [put_at, *]), (by first | rfl | (simp only [put_at, ↓reduceIte, Nat.reduceEqDiff]; first | done | rfl | assumption) | simp [put_at, *])⟩
  · rintro fr C' ⟨rfl, f1, f7, f15, f16, f17⟩ N
    have g0 : decide (((nextL qs[i] i).length : Int) < ((nextL qs[i] i).length : Int)) = false := by simp
    rw [List.take_length] at f7
    have e : behindM qs l i = orOf l (nextL qs[i] i) := by rw [behindM, nextAt_eq hi]
    repeat' (first | simp -implicitDefEqProofs only [zG1,zG2,zG3,zG4,zG5,zG6,zG7,eq_self,resV,rval,X.val,binv,fillL,setR,↓reduceIte,Nat.reduceEqDiff,Nat.reduceAdd,Nat.reduceMul,Nat.reduceLeDiff,Nat.reduceLT,Nat.reduceSub,reduceCtorEq,zGq, f1, f7, f15, f16, f17, g0] | ((with_reducible refine rows_intro (fun _ hb => ?_)); try simp only [set_none, ne_eq] at hb) | ((with_reducible refine new_intro (fun _ hb => ?_)); try simp only [set_none, ne_eq] at hb) | (with_reducible refine draw_same ?_) | ((with_reducible refine gd_split ?_ (fun _ => ?_) (fun _ => ?_)); exact rfl) | ((with_reducible refine td_split ?_ (fun _ => ?_) (fun _ => ?_)); exact rfl) | (with_reducible refine c_split (fun _ => ?_) (fun _ => ?_)))
    exact ⟨H, l2, ki h (by rw [e])⟩
theorem upd_eq {qs : List Qd} {l : List Nat} {i : Nat} (hi : i < qs.length) : upd qs l i = beforeM qs[i] (behindM qs l i) := by simp [upd, hi]
theorem liveBefore_ok (A : Option Addr) (c : Nat) (qs : List Qd) (hv : codeValid qs = true) (hx : Fl H A (qcells qs)) (h : ∀ v C bs, AHeap.le H C → New H bs → Rw C 72 1 v qs.length (u16s (liveL qs)) bs → K v C) :
    ACalls Try.prog w0 45 [.slice A qs.length c] H K := by
  have hc := code_at hv
  refine acalls_of_sx mix Try.func45 of45 (by simp [ir45]) ?_; rw [ir45]; (try delta qT qI qC qO qM qG)
  repeat' (first | simp -implicitDefEqProofs only [zG1,zG2,zG3,zG4,zG5,zG6,zG7,eq_self,resV,rval,X.val,binv,fillL,setR,↓reduceIte,Nat.reduceEqDiff,Nat.reduceAdd,Nat.reduceMul,Nat.reduceLeDiff,Nat.reduceLT,Nat.reduceSub,reduceCtorEq,zGq, repl_u16] | ((with_reducible refine rows_intro (fun _ hb => ?_)); try simp only [set_none, ne_eq] at hb) | ((with_reducible refine new_intro (fun _ hb => ?_)); try simp only [set_none, ne_eq] at hb) | (with_reducible refine draw_same ?_) | ((with_reducible refine gd_split ?_ (fun _ => ?_) (fun _ => ?_)); exact rfl) | ((with_reducible refine td_split ?_ (fun _ => ?_) (fun _ => ?_)); exact rfl) | (with_reducible refine c_split (fun _ => ?_) (fun _ => ?_)) | (with_reducible refine mk_intro (by omega) (by omega) (fun b hb => ?_)))
  refine while_rule (fun m fr C => ∃ (l : List Nat) (ch : Bool), AHeap.le H C ∧ Kn C b ⟨u16s l, true, 72, qs.length * 1⟩ ∧ (ch = true → m = room l + 1 ∧ ∃ n, l = iterL qs n) ∧ (ch = false → m = 0 ∧ l = liveL qs ∧ l.length = qs.length) ∧
    fr 0 = .slice A qs.length c ∧ fr 3 = .slice (some ⟨b, 0, none⟩) qs.length qs.length ∧ fr 4 = .bool ch) (room (iterL qs 0) + 1)
    ⟨iterL qs 0, true, (AHeap.le.refl H).fresh hb _, Kn.same _ _ _, fun _ => ⟨rfl, 0, rfl⟩, fun h => (by cases h), (by first | rfl | (simp only [put_at, ↓reduceIte, Nat.reduceEqDiff]; first | done | rfl | assumption) | simp [put_at, *]), (by first | rfl | (simp only [put_at, ↓reduceIte, Nat.reduceEqDiff]; first | done | rfl | assumption) | simp [put_at, *]), (by first | rfl | (simp only [put_at, ↓reduceIte, Nat.reduceEqDiff]; first | done | rfl | assumption) | simp [put_at, *])⟩ ?_
  rintro m fr C ⟨l, ch, hle, kn, ht, hf, f0, f3, f4⟩ N hN
  cases ch with
  | false =>
    obtain ⟨rfl, rfl, hll⟩ := hf rfl
    repeat' (first | simp -implicitDefEqProofs only [zG1,zG2,zG3,zG4,zG5,zG6,zG7,eq_self,resV,rval,X.val,binv,fillL,setR,↓reduceIte,Nat.reduceEqDiff,Nat.reduceAdd,Nat.reduceMul,Nat.reduceLeDiff,Nat.reduceLT,Nat.reduceSub,reduceCtorEq,zGq, f0, f3, f4] | ((with_reducible refine rows_intro (fun _ hb => ?_)); try simp only [set_none, ne_eq] at hb) | ((with_reducible refine new_intro (fun _ hb => ?_)); try simp only [set_none, ne_eq] at hb) | (with_reducible refine draw_same ?_) | ((with_reducible refine gd_split ?_ (fun _ => ?_) (fun _ => ?_)); exact rfl) | ((with_reducible refine td_split ?_ (fun _ => ?_) (fun _ => ?_)); exact rfl) | (with_reducible refine c_split (fun _ => ?_) (fun _ => ?_)))
    exact ret_same (h _ _ [b] hle (New.one hb) (Rw.mk kn (by rw [u16s_len, hll, Nat.mul_one]) (Nat.le_refl _) (by simp only [maxLen]; omega)))
  | true =>
    obtain ⟨rfl, n, rfl⟩ := ht rfl
    have e1 : IntKind.i64.wrap ((qs.length : Int) - 1) = (qs.length : Int) - 1 := wrap_i64 (by omega) (by omega)
    repeat' (first | simp -implicitDefEqProofs only [zG1,zG2,zG3,zG4,zG5,zG6,zG7,eq_self,resV,rval,X.val,binv,fillL,setR,↓reduceIte,Nat.reduceEqDiff,Nat.reduceAdd,Nat.reduceMul,Nat.reduceLeDiff,Nat.reduceLT,Nat.reduceSub,reduceCtorEq,zGq, f0, f3, f4, e1] | ((with_reducible refine rows_intro (fun _ hb => ?_)); try simp only [set_none, ne_eq] at hb) | ((with_reducible refine new_intro (fun _ hb => ?_)); try simp only [set_none, ne_eq] at hb) | (with_reducible refine draw_same ?_) | ((with_reducible refine gd_split ?_ (fun _ => ?_) (fun _ => ?_)); exact rfl) | ((with_reducible refine td_split ?_ (fun _ => ?_) (fun _ => ?_)); exact rfl) | (with_reducible refine c_split (fun _ => ?_) (fun _ => ?_)))
    refine for_rule qs.length (fun k fr C => ∃ (l : List Nat) (ch : Bool), AHeap.le H C ∧ Kn C b ⟨u16s l, true, 72, qs.length * 1⟩ ∧ Lv qs (iterL qs n) l (qs.length - k) ch ∧
      fr 0 = .slice A qs.length c ∧ fr 3 = .slice (some ⟨b, 0, none⟩) qs.length qs.length ∧ fr 4 = .bool ch ∧ fr 5 = .int .i64 ((qs.length : Int) - 1 - k))
      ⟨iterL qs n, false, hle, kn, Lv.start hv, (by first | rfl | (simp only [put_at, ↓reduceIte, Nat.reduceEqDiff]; first | done | rfl | assumption) | simp [put_at, *]), (by first | rfl | (simp only [put_at, ↓reduceIte, Nat.reduceEqDiff]; first | done | rfl | assumption) | simp [put_at, *]), (by first | rfl | (simp only [put_at, ↓reduceIte, Nat.reduceEqDiff]; first | done | rfl | assumption) | simp [put_at, *]), by simp [put_at]⟩ ?_ ?_
    · rintro k fr C hk ⟨l, ch, hle, kn, hL, f0, f3, f4, f5⟩ N' hN'
      obtain ⟨a, ha⟩ : ∃ a, qs.length - k = a + 1 := ⟨qs.length - k - 1, by omega⟩
      rw [ha] at hL
      have hea : (qs.length : Int) - 1 - k = (a : Int) := by omega
      rw [hea] at f5
      have han : a < qs.length := by omega
      have hal : a < l.length := by rw [hL.len]; exact han
      have g0 : decide ((a : Int) ≥ 0) = true := by simp
      have g1 := rng han
      have g2 : IntKind.i64.wrap ((a : Int) - 1) = (a : Int) - 1 := wrap_i64 (by omega) (by omega)
      have p0 := (hx.le hle).quad han
      have q1 : C.cell (some ⟨b, a, none⟩) = some (.int .u16 ((lvAt l a : Nat) : Int)) := kn.cell (u16s_at hal)
      have hqv := hc.2.2 a han
      obtain ⟨ga, gb⟩ := valid_regs hqv
      have hsl := sets_lt hqv
      have hbl : behindM qs l a < 4096 := orOf_lt hL.small_ _
      have hul := usesN_lt' ga gb
      have hu := upd_eq (l := l) han
      have fin : ∀ (fr' : Fr) (x : Nat), x = upd qs l a → fr' 0 = .slice A qs.length c → fr' 3 = .slice (some ⟨b, 0, none⟩) qs.length qs.length → fr' 4 = .bool (if x = lvAt l a then ch else true) → fr' 5 = .int .i64 ((a : Int) - 1) →
          ∀ C', (x = lvAt l a → AHeap.le H C' ∧ Kn C' b ⟨u16s l, true, 72, qs.length * 1⟩) → (x ≠ lvAt l a → AHeap.le H C' ∧ Kn C' b ⟨u16s (l.set a x), true, 72, qs.length * 1⟩) → N' fr' C' := by
        rintro fr' x rfl h0 h3 h4 h5 C' h6 h7
        have e5 : (a : Int) - 1 = (qs.length : Int) - 1 - ((k + 1 : Nat) : Int) := by omega
        rw [e5] at h5
        have e6 : qs.length - (k + 1) = a := by omega
        by_cases hxa : upd qs l a = lvAt l a
        · rw [if_pos hxa] at h4
          exact hN' _ _ _ (.refl _) ⟨l, ch, (h6 hxa).1, (h6 hxa).2, by rw [e6]; exact hL.keep hxa, h0, h3, h4, h5⟩
        · rw [if_neg hxa] at h4
          exact hN' _ _ _ (.refl _) ⟨_, true, (h7 hxa).1, (h7 hxa).2, by rw [e6]; exact hL.put hv han hxa, h0, h3, h4, h5⟩
      have store : ∀ (x : Nat) (D : Value → AHeap → Prop), (∀ C', AHeap.le H C' → Kn C' b ⟨u16s (l.set a x), true, 72, qs.length * 1⟩ → D undef C') → stK 1 (.pointer (some ⟨b, a, none⟩)) (.int .u16 (x : Int)) D C := by
        intro x D hD
        refine st_kn kn rfl rfl (by simp [u16s_len]; omega) (by simp [vcI, ocI]) (fun C6 hc6 ho6 k6 => hD C6 (hc6.keep hle (New.one hb)) ?_)
        rw [← u16s_set]; exact k6
      by_cases hr : 0 ≤ setsOf qs[a]
      · obtain ⟨r, hr'⟩ : ∃ r : Nat, setsOf qs[a] = (r : Int) := ⟨(setsOf qs[a]).toNat, by omega⟩
        have hr12 : r < 12 := by omega
        have d1 : decide ((r : Int) ≥ 0) = true := by simp
        have e2 := shl16 (r := (r : Int)) (by omega)
        rw [Int.toNat_natCast] at e2
        have e3 := u16_not hbl hr12
        have e4 := u16_or_nat (behindM qs l a &&& (65535 - 2 ^ r)) (usesN qs[a]) (Nat.lt_trans (and_lt hbl) (by decide)) (by omega)
        have e5 : ¬ (r : Int) < 0 := by omega
        have hx' : behindM qs l a &&& (65535 - 2 ^ r) ||| usesN qs[a] = upd qs l a := by rw [hu, beforeM, clearM, if_pos hr, hr', Int.toNat_natCast]
        have hset : ∀ D : Value → AHeap → Prop, D (.int .i64 (r : Int)) C → ACalls Try.prog w0 68 [qs[a].val] C D := fun D hD => setsOf_ok _ _ _ qs[a] (by rw [hr']; exact hD)
        have e6 : IntKind.u16.bits = 16 := rfl
        repeat' (first | simp -implicitDefEqProofs only [zG1,zG2,zG3,zG4,zG5,zG6,zG7,eq_self,resV,rval,X.val,binv,fillL,setR,↓reduceIte,Nat.reduceEqDiff,Nat.reduceAdd,Nat.reduceMul,Nat.reduceLeDiff,Nat.reduceLT,Nat.reduceSub,reduceCtorEq,zGq, f0, f3, f4, f5, g0, g1, g2, p0, q1, d1, e2, e3, e4, e5, e6, hx', adr_lit, Nat.zero_add, Nat.mul_one, Nat.add_zero] | ((with_reducible refine rows_intro (fun _ hb => ?_)); try simp only [set_none, ne_eq] at hb) | ((with_reducible refine new_intro (fun _ hb => ?_)); try simp only [set_none, ne_eq] at hb) | (with_reducible refine draw_same ?_) | ((with_reducible refine gd_split ?_ (fun _ => ?_) (fun _ => ?_)); exact rfl) | ((with_reducible refine td_split ?_ (fun _ => ?_) (fun _ => ?_)); exact rfl) | (with_reducible refine c_split (fun _ => ?_) (fun _ => ?_)) | (with_reducible refine liveBehind_ok _ _ _ A c qs hv (hx.le hle) _ _ l hL.len hL.small_ (kn.fl fun _ _ h => h) a han ?_) | (with_reducible refine hset _ ?_) | (with_reducible refine usesOf_ok _ _ _ qs[a] ga gb ?_))
        · rename_i hne
          refine store _ _ (fun C6 l6 k6 => ?_)
          have hne' : upd qs l a ≠ lvAt l a := by simp at hne; omega
          repeat' (first | simp -implicitDefEqProofs only [zG1,zG2,zG3,zG4,zG5,zG6,zG7,eq_self,resV,rval,X.val,binv,fillL,setR,↓reduceIte,Nat.reduceEqDiff,Nat.reduceAdd,Nat.reduceMul,Nat.reduceLeDiff,Nat.reduceLT,Nat.reduceSub,reduceCtorEq,zGq, f0, f3, f4, f5, g2] | ((with_reducible refine rows_intro (fun _ hb => ?_)); try simp only [set_none, ne_eq] at hb) | ((with_reducible refine new_intro (fun _ hb => ?_)); try simp only [set_none, ne_eq] at hb) | (with_reducible refine draw_same ?_) | ((with_reducible refine gd_split ?_ (fun _ => ?_) (fun _ => ?_)); exact rfl) | ((with_reducible refine td_split ?_ (fun _ => ?_) (fun _ => ?_)); exact rfl) | (with_reducible refine c_split (fun _ => ?_) (fun _ => ?_)))
          exact fin _ _ rfl (by first | rfl | (simp only [put_at, ↓reduceIte, Nat.reduceEqDiff]; first | done | rfl | assumption) | simp [put_at, *]) (by first | rfl | (simp only [put_at, ↓reduceIte, Nat.reduceEqDiff]; first | done | rfl | assumption) | simp [put_at, *]) (by rw [if_neg hne']; exact (by first | rfl | (simp only [put_at, ↓reduceIte, Nat.reduceEqDiff]; first | done | rfl | assumption) | simp [put_at, *])) (by first | rfl | (simp only [put_at, ↓reduceIte, Nat.reduceEqDiff]; first | done | rfl | assumption) | simp [put_at, *]) _ (fun e => absurd e hne') (fun _ => ⟨l6, k6⟩)
        · rename_i heq
          have heq' : upd qs l a = lvAt l a := by simp at heq; omega
          exact fin _ _ rfl (by first | rfl | (simp only [put_at, ↓reduceIte, Nat.reduceEqDiff]; first | done | rfl | assumption) | simp [put_at, *]) (by first | rfl | (simp only [put_at, ↓reduceIte, Nat.reduceEqDiff]; first | done | rfl | assumption) | simp [put_at, *]) (by rw [if_pos heq']; exact (by first | rfl | (simp only [put_at, ↓reduceIte, Nat.reduceEqDiff]; first | done | rfl | assumption) | simp [put_at, *])) (by first | rfl | (simp only [put_at, ↓reduceIte, Nat.reduceEqDiff]; first | done | rfl | assumption) | simp [put_at, *]) _ (fun _ => ⟨hle, kn⟩) (fun e => absurd heq' e)
      · have d1 : decide (setsOf qs[a] ≥ 0) = false := by simp; omega
        have e4 := u16_or_nat (behindM qs l a) (usesN qs[a]) (Nat.lt_trans hbl (by decide)) (by omega)
        have hx' : behindM qs l a ||| usesN qs[a] = upd qs l a := by rw [hu, beforeM, clearM, if_neg hr]
        repeat' (first | simp -implicitDefEqProofs only [zG1,zG2,zG3,zG4,zG5,zG6,zG7,eq_self,resV,rval,X.val,binv,fillL,setR,↓reduceIte,Nat.reduceEqDiff,Nat.reduceAdd,Nat.reduceMul,Nat.reduceLeDiff,Nat.reduceLT,Nat.reduceSub,reduceCtorEq,zGq, f0, f3, f4, f5, g0, g1, g2, p0, q1, d1, e4, hx', adr_lit, Nat.zero_add, Nat.mul_one, Nat.add_zero] | ((with_reducible refine rows_intro (fun _ hb => ?_)); try simp only [set_none, ne_eq] at hb) | ((with_reducible refine new_intro (fun _ hb => ?_)); try simp only [set_none, ne_eq] at hb) | (with_reducible refine draw_same ?_) | ((with_reducible refine gd_split ?_ (fun _ => ?_) (fun _ => ?_)); exact rfl) | ((with_reducible refine td_split ?_ (fun _ => ?_) (fun _ => ?_)); exact rfl) | (with_reducible refine c_split (fun _ => ?_) (fun _ => ?_)) | (with_reducible refine liveBehind_ok _ _ _ A c qs hv (hx.le hle) _ _ l hL.len hL.small_ (kn.fl fun _ _ h => h) a han ?_) | (with_reducible refine setsOf_ok _ _ _ qs[a] ?_) | (with_reducible refine usesOf_ok _ _ _ qs[a] ga gb ?_))
        · rename_i hne
          refine store _ _ (fun C6 l6 k6 => ?_)
          have hne' : upd qs l a ≠ lvAt l a := by simp at hne; omega
          repeat' (first | simp -implicitDefEqProofs only [zG1,zG2,zG3,zG4,zG5,zG6,zG7,eq_self,resV,rval,X.val,binv,fillL,setR,↓reduceIte,Nat.reduceEqDiff,Nat.reduceAdd,Nat.reduceMul,Nat.reduceLeDiff,Nat.reduceLT,Nat.reduceSub,reduceCtorEq,zGq, f0, f3, f4, f5, g2] | ((with_reducible refine rows_intro (fun _ hb => ?_)); try simp only [set_none, ne_eq] at hb) | ((with_reducible refine new_intro (fun _ hb => ?_)); try simp only [set_none, ne_eq] at hb) | (with_reducible refine draw_same ?_) | ((with_reducible refine gd_split ?_ (fun _ => ?_) (fun _ => ?_)); exact rfl) | ((with_reducible refine td_split ?_ (fun _ => ?_) (fun _ => ?_)); exact rfl) | (with_reducible refine c_split (fun _ => ?_) (fun _ => ?_)))
          exact fin _ _ rfl (by first | rfl | (simp only [put_at, ↓reduceIte, Nat.reduceEqDiff]; first | done | rfl | assumption) | simp [put_at, *]) (by first | rfl | (simp only [put_at, ↓reduceIte, Nat.reduceEqDiff]; first | done | rfl | assumption) | simp [put_at, *]) (by rw [if_neg hne']; exact (by first | rfl | (simp only [put_at, ↓reduceIte, Nat.reduceEqDiff]; first | done | rfl | assumption) | simp [put_at, *])) (by first | rfl | (simp only [put_at, ↓reduceIte, Nat.reduceEqDiff]; first | done | rfl | assumption) | simp [put_at, *]) _ (fun e => absurd e hne') (fun _ => ⟨l6, k6⟩)
        · rename_i heq
          have heq' : upd qs l a = lvAt l a := by simp at heq; omega
          exact fin _ _ rfl (by first | rfl | (simp only [put_at, ↓reduceIte, Nat.reduceEqDiff]; first | done | rfl | assumption) | simp [put_at, *]) (by first | rfl | (simp only [put_at, ↓reduceIte, Nat.reduceEqDiff]; first | done | rfl | assumption) | simp [put_at, *]) (by rw [if_pos heq']; exact (by first | rfl | (simp only [put_at, ↓reduceIte, Nat.reduceEqDiff]; first | done | rfl | assumption) | simp [put_at, *])) (by first | rfl | (simp only [put_at, ↓reduceIte, Nat.reduceEqDiff]; first | done | rfl | assumption) | simp [put_at, *]) _ (fun _ => ⟨hle, kn⟩) (fun e => absurd heq' e)
    · rintro fr C ⟨l, ch, hle, kn, hL, f0, f3, f4, f5⟩ N'
      have g0 : decide ((qs.length : Int) - 1 - ((qs.length : Nat) : Int) ≥ 0) = false := by simp; omega
      rw [Nat.sub_self] at hL
      repeat' (first | simp -implicitDefEqProofs only [zG1,zG2,zG3,zG4,zG5,zG6,zG7,eq_self,resV,rval,X.val,binv,fillL,setR,↓reduceIte,Nat.reduceEqDiff,Nat.reduceAdd,Nat.reduceMul,Nat.reduceLeDiff,Nat.reduceLT,Nat.reduceSub,reduceCtorEq,zGq, f0, f3, f4, f5, g0] | ((with_reducible refine rows_intro (fun _ hb => ?_)); try simp only [set_none, ne_eq] at hb) | ((with_reducible refine new_intro (fun _ hb => ?_)); try simp only [set_none, ne_eq] at hb) | (with_reducible refine draw_same ?_) | ((with_reducible refine gd_split ?_ (fun _ => ?_) (fun _ => ?_)); exact rfl) | ((with_reducible refine td_split ?_ (fun _ => ?_) (fun _ => ?_)); exact rfl) | (with_reducible refine c_split (fun _ => ?_) (fun _ => ?_)))
      cases ch with
      | true => exact hN _ _ _ _ (by have := hL.less rfl; omega) (.refl _) ⟨l, true, hle, kn, fun _ => ⟨rfl, n + 1, hL.next⟩, fun h => (by cases h), (by first | rfl | (simp only [put_at, ↓reduceIte, Nat.reduceEqDiff]; first | done | rfl | assumption) | simp [put_at, *]), (by first | rfl | (simp only [put_at, ↓reduceIte, Nat.reduceEqDiff]; first | done | rfl | assumption) | simp [put_at, *]), (by first | rfl | (simp only [put_at, ↓reduceIte, Nat.reduceEqDiff]; first | done | rfl | assumption) | simp [put_at, *])⟩
      | false => exact hN 0 _ _ _ (by omega) (.refl _) ⟨l, false, hle, kn, fun h => (by cases h), fun _ => ⟨rfl, hL.fix, hL.len⟩, (by first | rfl | (simp only [put_at, ↓reduceIte, Nat.reduceEqDiff]; first | done | rfl | assumption) | simp [put_at, *]), (by first | rfl | (simp only [put_at, ↓reduceIte, Nat.reduceEqDiff]; first | done | rfl | assumption) | simp [put_at, *]), (by first | rfl | (simp only [put_at, ↓reduceIte, Nat.reduceEqDiff]; first | done | rfl | assumption) | simp [put_at, *])⟩
theorem flags_ok (m : Nat) (hm : m < 4096) (h : ∀ v C bs, AHeap.le H C → New H bs → Rw C 4 1 v 12 (bools (flagsM m)) bs → K v C) : ACalls Try.prog w0 46 [.int .u16 m] H K := by
  refine acalls_of_sx mix Try.func46 of46 (by simp [ir46]) ?_; rw [ir46]; (try delta qT qI qC qO qM qG)
  repeat' (first | simp -implicitDefEqProofs only [zG1,zG2,zG3,zG4,zG5,zG6,zG7,eq_self,resV,rval,X.val,binv,fillL,setR,↓reduceIte,Nat.reduceEqDiff,Nat.reduceAdd,Nat.reduceMul,Nat.reduceLeDiff,Nat.reduceLT,Nat.reduceSub,reduceCtorEq,zGq] | ((with_reducible refine rows_intro (fun _ hb => ?_)); try simp only [set_none, ne_eq] at hb) | ((with_reducible refine new_intro (fun _ hb => ?_)); try simp only [set_none, ne_eq] at hb) | (with_reducible refine draw_same ?_) | ((with_reducible refine gd_split ?_ (fun _ => ?_) (fun _ => ?_)); exact rfl) | ((with_reducible refine td_split ?_ (fun _ => ?_) (fun _ => ?_)); exact rfl) | (with_reducible refine c_split (fun _ => ?_) (fun _ => ?_)) | (with_reducible refine mkB12 (fun b hb => ?_)))
  refine for_rule 12 (fun k fr C => AHeap.le H C ∧ Kn C b ⟨bools (flagsTo 0 m k), true, 4, 12 * 1⟩ ∧ fr 0 = .int .u16 m ∧ fr 3 = .slice (some ⟨b, 0, none⟩) 12 12 ∧ fr 7 = .int .i64 ((12 : Nat) : Int) ∧ fr 8 = .int .i64 k)
    ⟨(AHeap.le.refl H).fresh hb _, by rw [flagsTo_zero]; exact Kn.same _ _ _, (by first | rfl | (simp only [put_at, ↓reduceIte, Nat.reduceEqDiff]; first | done | rfl | assumption) | simp [put_at, *]), (by first | rfl | (simp only [put_at, ↓reduceIte, Nat.reduceEqDiff]; first | done | rfl | assumption) | simp [put_at, *]), (by first | rfl | (simp only [put_at, ↓reduceIte, Nat.reduceEqDiff]; first | done | rfl | assumption) | simp [put_at, *]), (by first | rfl | (simp only [put_at, ↓reduceIte, Nat.reduceEqDiff]; first | done | rfl | assumption) | simp [put_at, *])⟩ ?_ ?_
  · rintro k fr C hk ⟨hle, kn, f0, f3, f7, f8⟩ N hN
    have g0 := lt_dec hk
    have g1 := rng hk
    have g2 := up1 hk (by omega)
    have hset := flagsTo_set (a := 0) (b := m) hk
    rw [Nat.zero_testBit, Bool.false_or] at hset
    repeat' (first | simp -implicitDefEqProofs only [zG1,zG2,zG3,zG4,zG5,zG6,zG7,eq_self,resV,rval,X.val,binv,fillL,setR,↓reduceIte,Nat.reduceEqDiff,Nat.reduceAdd,Nat.reduceMul,Nat.reduceLeDiff,Nat.reduceLT,Nat.reduceSub,reduceCtorEq,zGq, f0, f3, f7, f8, g0, g1, g2, adr_lit, Nat.zero_add, Nat.mul_one] | ((with_reducible refine rows_intro (fun _ hb => ?_)); try simp only [set_none, ne_eq] at hb) | ((with_reducible refine new_intro (fun _ hb => ?_)); try simp only [set_none, ne_eq] at hb) | (with_reducible refine draw_same ?_) | ((with_reducible refine gd_split ?_ (fun _ => ?_) (fun _ => ?_)); exact rfl) | ((with_reducible refine td_split ?_ (fun _ => ?_) (fun _ => ?_)); exact rfl) | (with_reducible refine c_split (fun _ => ?_) (fun _ => ?_)) | (with_reducible refine has_ok _ _ _ m k (by omega) hk ?_))
    refine st_kn kn rfl rfl (by simp [bools_len, flagsTo_len]; omega) (by simp [vcB, ocB]) (fun C6 hc6 ho6 k6 => ?_)
    repeat' (first | simp -implicitDefEqProofs only [zG1,zG2,zG3,zG4,zG5,zG6,zG7,eq_self,resV,rval,X.val,binv,fillL,setR,↓reduceIte,Nat.reduceEqDiff,Nat.reduceAdd,Nat.reduceMul,Nat.reduceLeDiff,Nat.reduceLT,Nat.reduceSub,reduceCtorEq,zGq, f0, f3, f7, f8, g2] | ((with_reducible refine rows_intro (fun _ hb => ?_)); try simp only [set_none, ne_eq] at hb) | ((with_reducible refine new_intro (fun _ hb => ?_)); try simp only [set_none, ne_eq] at hb) | (with_reducible refine draw_same ?_) | ((with_reducible refine gd_split ?_ (fun _ => ?_) (fun _ => ?_)); exact rfl) | ((with_reducible refine td_split ?_ (fun _ => ?_) (fun _ => ?_)); exact rfl) | (with_reducible refine c_split (fun _ => ?_) (fun _ => ?_)))
    exact hN _ _ _ (.refl _) ⟨hc6.keep hle (New.one hb), by rw [← hset, ← bools_set]; exact k6, (by first | rfl | (simp only [put_at, ↓reduceIte, Nat.reduceEqDiff]; first | done | rfl | assumption) | simp [put_at, *]), (by first | rfl | (simp only [put_at, ↓reduceIte, Nat.reduceEqDiff]; first | done | rfl | assumption) | simp [put_at, *]), (by first | rfl | (simp only [put_at, ↓reduceIte, Nat.reduceEqDiff]; first | done | rfl | assumption) | simp [put_at, *]), (by first | rfl | (simp only [put_at, ↓reduceIte, Nat.reduceEqDiff]; first | done | rfl | assumption) | simp [put_at, *])⟩
  · rintro fr C ⟨hle, kn, f0, f3, f7, f8⟩ N
    have g0 : decide (((12 : Nat) : Int) < ((12 : Nat) : Int)) = false := by decide
    rw [flagsTo_end, Nat.zero_or] at kn
    repeat' (first | simp -implicitDefEqProofs only [zG1,zG2,zG3,zG4,zG5,zG6,zG7,eq_self,resV,rval,X.val,binv,fillL,setR,↓reduceIte,Nat.reduceEqDiff,Nat.reduceAdd,Nat.reduceMul,Nat.reduceLeDiff,Nat.reduceLT,Nat.reduceSub,reduceCtorEq,zGq, f0, f3, f7, f8, g0] | ((with_reducible refine rows_intro (fun _ hb => ?_)); try simp only [set_none, ne_eq] at hb) | ((with_reducible refine new_intro (fun _ hb => ?_)); try simp only [set_none, ne_eq] at hb) | (with_reducible refine draw_same ?_) | ((with_reducible refine gd_split ?_ (fun _ => ?_) (fun _ => ?_)); exact rfl) | ((with_reducible refine td_split ?_ (fun _ => ?_) (fun _ => ?_)); exact rfl) | (with_reducible refine c_split (fun _ => ?_) (fun _ => ?_)))
    exact ret_same (h _ _ [b] hle (New.one hb) (Rw.mk kn (by rw [bools_len, flagsM_len]) (Nat.le_refl _) (by simp [maxLen])))
theorem liveOf_ok (A : Option Addr) (c : Nat) (qs : List Qd) (hx : Fl H A (qcells qs)) (h : ∀ v C bs, AHeap.le H C → New H bs → Rs C 37 4 1 v (((liveOf qs).map flagsM).map bools) bs → K v C) :
    ACalls Try.prog w0 30 [.slice A qs.length c] H K := by
  cases hv : codeValid qs with
  | false =>
    have e : liveOf qs = [] := by simp [liveOf, hv]
    rw [e, ← rowsM_eq] at h
    refine acalls_of_sx mix Try.func30 of30 (by simp [ir30]) ?_; rw [ir30]; (try delta qT qI qC qO qM qG)
    repeat' (first | simp -implicitDefEqProofs only [zG1,zG2,zG3,zG4,zG5,zG6,zG7,eq_self,resV,rval,X.val,binv,fillL,setR,↓reduceIte,Nat.reduceEqDiff,Nat.reduceAdd,Nat.reduceMul,Nat.reduceLeDiff,Nat.reduceLT,Nat.reduceSub,reduceCtorEq,zGq, hv] | ((with_reducible refine rows_intro (fun _ hb => ?_)); try simp only [set_none, ne_eq] at hb) | ((with_reducible refine new_intro (fun _ hb => ?_)); try simp only [set_none, ne_eq] at hb) | (with_reducible refine draw_same ?_) | ((with_reducible refine gd_split ?_ (fun _ => ?_) (fun _ => ?_)); exact rfl) | ((with_reducible refine td_split ?_ (fun _ => ?_) (fun _ => ?_)); exact rfl) | (with_reducible refine c_split (fun _ => ?_) (fun _ => ?_)) | (with_reducible refine codeValid_ok _ _ _ _ _ _ hx ?_))
    exact ret_same (h _ _ _ (.refl _) (New.nil _) (Rs.nil_ _ _ _ _))
  | true =>
    have hc := code_at hv
    have e : liveOf qs = liveL qs := by simp [liveOf, hv]
    rw [e, ← rowsM_eq] at h
    refine acalls_of_sx mix Try.func30 of30 (by simp [ir30]) ?_; rw [ir30]; (try delta qT qI qC qO qM qG)
    repeat' (first | simp -implicitDefEqProofs only [zG1,zG2,zG3,zG4,zG5,zG6,zG7,eq_self,resV,rval,X.val,binv,fillL,setR,↓reduceIte,Nat.reduceEqDiff,Nat.reduceAdd,Nat.reduceMul,Nat.reduceLeDiff,Nat.reduceLT,Nat.reduceSub,reduceCtorEq,zGq, hv] | ((with_reducible refine rows_intro (fun _ hb => ?_)); try simp only [set_none, ne_eq] at hb) | ((with_reducible refine new_intro (fun _ hb => ?_)); try simp only [set_none, ne_eq] at hb) | (with_reducible refine draw_same ?_) | ((with_reducible refine gd_split ?_ (fun _ => ?_) (fun _ => ?_)); exact rfl) | ((with_reducible refine td_split ?_ (fun _ => ?_) (fun _ => ?_)); exact rfl) | (with_reducible refine c_split (fun _ => ?_) (fun _ => ?_)) | (with_reducible refine codeValid_ok _ _ _ _ _ _ hx ?_))
    refine liveBefore_ok _ _ _ A c qs hv hx (fun v1 C1 bs1 l1 n1 w1 => ?_)
    obtain ⟨A1, e1, rfl, -⟩ := w1.fl
    have hll : (liveL qs).length = qs.length := by have := w1.len; rw [u16s_len, Nat.mul_one] at this; exact this
    repeat' (first | simp -implicitDefEqProofs only [zG1,zG2,zG3,zG4,zG5,zG6,zG7,eq_self,resV,rval,X.val,binv,fillL,setR,↓reduceIte,Nat.reduceEqDiff,Nat.reduceAdd,Nat.reduceMul,Nat.reduceLeDiff,Nat.reduceLT,Nat.reduceSub,reduceCtorEq,zGq] | ((with_reducible refine rows_intro (fun _ hb => ?_)); try simp only [set_none, ne_eq] at hb) | ((with_reducible refine new_intro (fun _ hb => ?_)); try simp only [set_none, ne_eq] at hb) | (with_reducible refine draw_same ?_) | ((with_reducible refine gd_split ?_ (fun _ => ?_) (fun _ => ?_)); exact rfl) | ((with_reducible refine td_split ?_ (fun _ => ?_) (fun _ => ?_)); exact rfl) | (with_reducible refine c_split (fun _ => ?_) (fun _ => ?_)))
    refine for_rule qs.length (fun k fr C => ∃ (v : Value) (bs : List Nat), AHeap.le H C ∧ New H bs ∧ Rw C 72 1 (.slice A1 qs.length e1) qs.length (u16s (liveL qs)) bs1 ∧ (∀ y, y ∈ bs → ¬ y ∈ bs1) ∧ Rs C 37 4 1 v (rowsM ((liveL qs).take k)) bs ∧
      fr 3 = v ∧ fr 10 = .slice A1 qs.length e1 ∧ fr 11 = .int .i64 qs.length ∧ fr 12 = .int .i64 k)
      ⟨_, [], l1, New.nil _, w1, fun y hy => (by cases hy), by rw [List.take_zero]; exact Rs.nil_ _ _ _ _, (by first | rfl | (simp only [put_at, ↓reduceIte, Nat.reduceEqDiff]; first | done | rfl | assumption) | simp [put_at, *]), (by first | rfl | (simp only [put_at, ↓reduceIte, Nat.reduceEqDiff]; first | done | rfl | assumption) | simp [put_at, *]), (by first | rfl | (simp only [put_at, ↓reduceIte, Nat.reduceEqDiff]; first | done | rfl | assumption) | simp [put_at, *]), (by first | rfl | (simp only [put_at, ↓reduceIte, Nat.reduceEqDiff]; first | done | rfl | assumption) | simp [put_at, *])⟩ ?_ ?_
    · rintro k fr C hk ⟨v, bs0, hle, hn0, wl, hd0, hR0, f3, f10, f11, f12⟩ N hN
      obtain ⟨bs, hs, hne, hR⟩ := hR0.tight
      have hn : New H bs := fun y hy => hn0 y (hs y hy)
      have hd : ∀ y, y ∈ bs → ¬ y ∈ bs1 := fun y hy => hd0 y (hs y hy)
      obtain ⟨A3, c3, rfl⟩ := hR.slice
      have g0 := lt_dec hk
      have g1 := rng hk
      have g2 := up1 hk (by omega)
      have q1 := wl.fl'.1 k _ (u16s_at (by omega))
      have q2 := wl.fl'.1.is (i := k) (by rw [u16s_len]; omega)
      have hstep : (liveL qs).take (k + 1) = (liveL qs).take k ++ [lvAt (liveL qs) k] := by
        rw [List.take_add_one, List.getElem?_eq_getElem (by omega)]; simp [lvAt, hll, hk]
      repeat' (first | simp -implicitDefEqProofs only [zG1,zG2,zG3,zG4,zG5,zG6,zG7,eq_self,resV,rval,X.val,binv,fillL,setR,↓reduceIte,Nat.reduceEqDiff,Nat.reduceAdd,Nat.reduceMul,Nat.reduceLeDiff,Nat.reduceLT,Nat.reduceSub,reduceCtorEq,zGq, f3, f10, f11, f12, g0, g1, q1, q2, Nat.mul_one] | ((with_reducible refine rows_intro (fun _ hb => ?_)); try simp only [set_none, ne_eq] at hb) | ((with_reducible refine new_intro (fun _ hb => ?_)); try simp only [set_none, ne_eq] at hb) | (with_reducible refine draw_same ?_) | ((with_reducible refine gd_split ?_ (fun _ => ?_) (fun _ => ?_)); exact rfl) | ((with_reducible refine td_split ?_ (fun _ => ?_) (fun _ => ?_)); exact rfl) | (with_reducible refine c_split (fun _ => ?_) (fun _ => ?_)))
      refine flags_ok _ _ _ _ (live_small hv _) (fun v4 C4 bs4 l4 n4 w4 => ?_)
      obtain ⟨A4, c4, rfl⟩ := w4.slice
      repeat' (first | simp -implicitDefEqProofs only [zG1,zG2,zG3,zG4,zG5,zG6,zG7,eq_self,resV,rval,X.val,binv,fillL,setR,↓reduceIte,Nat.reduceEqDiff,Nat.reduceAdd,Nat.reduceMul,Nat.reduceLeDiff,Nat.reduceLT,Nat.reduceSub,reduceCtorEq,zGq, f3, f10, f11, f12, g2] | ((with_reducible refine rows_intro (fun _ hb => ?_)); try simp only [set_none, ne_eq] at hb) | ((with_reducible refine new_intro (fun _ hb => ?_)); try simp only [set_none, ne_eq] at hb) | (with_reducible refine draw_same ?_) | ((with_reducible refine gd_split ?_ (fun _ => ?_) (fun _ => ?_)); exact rfl) | ((with_reducible refine td_split ?_ (fun _ => ?_) (fun _ => ?_)); exact rfl) | (with_reducible refine c_split (fun _ => ?_) (fun _ => ?_)))
      rename_i b6
      have l6 := le_fresh0 l4 (l4.none hb) ⟨[.slice A4 12 c4], true, 37, 1⟩
      refine (hR.trans l6).app (w4.trans ((AHeap.le.refl C4).fresh hb _)) (fun y hy hm => hne y hm (n4 y hy)) rfl (Fl.blk _ _ _ _ fun _ _ h => h) (by rw [rowsM_len]; simp [maxLen]; omega) (by rw [rowsM_len]; simp; omega) (fun v' C' bs' hc' hn' hR' => ?_)
      rw [← rowsM_snoc, ← hstep] at hR'
      repeat' (first | simp -implicitDefEqProofs only [zG1,zG2,zG3,zG4,zG5,zG6,zG7,eq_self,resV,rval,X.val,binv,fillL,setR,↓reduceIte,Nat.reduceEqDiff,Nat.reduceAdd,Nat.reduceMul,Nat.reduceLeDiff,Nat.reduceLT,Nat.reduceSub,reduceCtorEq,zGq, f3, f10, f11, f12, g2] | ((with_reducible refine rows_intro (fun _ hb => ?_)); try simp only [set_none, ne_eq] at hb) | ((with_reducible refine new_intro (fun _ hb => ?_)); try simp only [set_none, ne_eq] at hb) | (with_reducible refine draw_same ?_) | ((with_reducible refine gd_split ?_ (fun _ => ?_) (fun _ => ?_)); exact rfl) | ((with_reducible refine td_split ?_ (fun _ => ?_) (fun _ => ?_)); exact rfl) | (with_reducible refine c_split (fun _ => ?_) (fun _ => ?_)))
      have hd' : ∀ y, y ∈ bs' → H y = none ∧ ¬ y ∈ bs1 := fun y hy => by
        rcases hn' y hy with hm | hm | hm
        · exact ⟨hn y hm, hd y hm⟩
        · exact ⟨hle.none (n4 y hm), fun e => n4.off (C' := C) wl y e hm⟩
        · exact ⟨(hle.trans l6).none hm, fun e => New.off (C' := C) (New.one hm) (wl.trans l6) y e (by simp)⟩
      exact hN _ _ _ (.refl _) ⟨v', bs', hc'.keep (hle.trans l6) hn, fun y hy => (hd' y hy).1, (wl.trans l6).chg hc' (fun y hy e => hd y e hy), fun y hy => (hd' y hy).2, hR', (by first | rfl | (simp only [put_at, ↓reduceIte, Nat.reduceEqDiff]; first | done | rfl | assumption) | simp [put_at, *]), (by first | rfl | (simp only [put_at, ↓reduceIte, Nat.reduceEqDiff]; first | done | rfl | assumption) | simp [put_at, *]), (by first | rfl | (simp only [put_at, ↓reduceIte, Nat.reduceEqDiff]; first | done | rfl | assumption) | simp [put_at, *]), (by first | rfl | (simp only [put_at, ↓reduceIte, Nat.reduceEqDiff]; first | done | rfl | assumption) | simp [put_at, *])⟩
    · rintro fr C ⟨v, bs0, hle, hn0, wl, hd0, hR0, f3, f10, f11, f12⟩ N
      have g0 : decide ((qs.length : Int) < (qs.length : Int)) = false := by simp
      obtain ⟨A3, c3, rfl⟩ := hR0.slice
      rw [List.take_of_length_le (by omega)] at hR0 f3
      repeat' (first | simp -implicitDefEqProofs only [zG1,zG2,zG3,zG4,zG5,zG6,zG7,eq_self,resV,rval,X.val,binv,fillL,setR,↓reduceIte,Nat.reduceEqDiff,Nat.reduceAdd,Nat.reduceMul,Nat.reduceLeDiff,Nat.reduceLT,Nat.reduceSub,reduceCtorEq,zGq, f3, f10, f11, f12, g0] | ((with_reducible refine rows_intro (fun _ hb => ?_)); try simp only [set_none, ne_eq] at hb) | ((with_reducible refine new_intro (fun _ hb => ?_)); try simp only [set_none, ne_eq] at hb) | (with_reducible refine draw_same ?_) | ((with_reducible refine gd_split ?_ (fun _ => ?_) (fun _ => ?_)); exact rfl) | ((with_reducible refine td_split ?_ (fun _ => ?_) (fun _ => ?_)); exact rfl) | (with_reducible refine c_split (fun _ => ?_) (fun _ => ?_)))
      exact ret_same (h _ _ _ hle hn0 hR0)
end Go.Proofs.Ytjhedgoafkabiaa
namespace Go.Proofs.Ytjhedgoafkabiaa
set_option linter.all false
open Go Go.RowKit
set_option maxRecDepth 100000
variable (w0 : World) (H : AHeap) (K : Value → AHeap → Prop)
def isDead (q : Qd) (m : Nat) : Bool := decide (q.op = 1 ∨ q.op = 2 ∨ q.op = 3) && !m.testBit q.dst.toNat
noncomputable def dead (qs : List Qd) (i : Nat) : Bool := isDead (qAt qs i) (behindM qs (liveL qs) i)
def jumpQ (i : Nat) : Qd := ⟨4, 0, 0, 0, (i : Int) + 1⟩
noncomputable def deadCode (qs : List Qd) : List Qd := if codeValid qs then (List.range qs.length).map fun i => if dead qs i then jumpQ i else qAt qs i else []
end Go.Proofs.Ytjhedgoafkabiaa
namespace Go.Proofs.Ytjhedgoafkabiaa
set_option linter.all false
open Go Go.RowKit
namespace Fw
variable {V : Type} {F : Fw V} {s0 : List V}
end Fw
theorem next_mem {q : Qd} {i : Int} {x : Int} : x ∈ nextL q i ↔ (q.op ≠ 10 ∧ ((q.op = 4 ∨ q.op = 5) ∧ x = q.n ∨ q.op ≠ 4 ∧ x = i + 1)) := by
  simp only [nextL]
  split
  · rename_i h; simp [h]
  · split
    · rename_i h; simp [h]
    · split
      · rename_i h; simp only [List.mem_cons, List.not_mem_nil, or_false]; omega
      · split
        · rename_i h; simp only [List.mem_cons, List.not_mem_nil, or_false]; omega
        · simp only [List.mem_cons, List.not_mem_nil, or_false]; omega
noncomputable def once (qs : List Qd) : List Qd := squeeze (deadCode (jumpCode (copyCode (foldCode qs))))
end Go.Proofs.Ytjhedgoafkabiaa
namespace Go.Proofs.Ytjhedgoafkabiaa
set_option linter.all false
open Go Go.RowKit
/-- Where n jumps lead. -/
def hop (qs : List Qd) : Nat → Int → Int
  | 0, x => x
  | n + 1, x => hop qs n (nAt qs x.toNat)
end Go.Proofs.Ytjhedgoafkabiaa
namespace Go.Proofs.Ytjhedgoafkabiaa
set_option linter.all false
open Go Go.RowKit
set_option maxRecDepth 100000
variable (w0 : World) (H : AHeap) (K : Value → AHeap → Prop)
theorem qd_eq (p q : Qd) : decide (p.op = q.op ∧ p.dst = q.dst ∧ p.a = q.a ∧ p.b = q.b ∧ p.n = q.n) = decide (p = q) := by
  cases p; cases q; simp
theorem sameCode_ok (A B : Option Addr) (ca cb : Nat) (xs ys : List Qd) (hx : Fl H A (qcells xs)) (hy : Fl H B (qcells ys)) (hn : xs.length ≤ 4611686018427387904) (h : K (.bool (decide (xs = ys))) H) :
    ACalls Try.prog w0 20 [.slice A xs.length ca, .slice B ys.length cb] H K := by
  refine acalls_of_sx mix Try.func20 of20 (by simp [ir20]) ?_; rw [ir20]; (try delta qT qI qC qO qM qG)
  repeat' (first | simp -implicitDefEqProofs only [zG1,zG2,zG3,zG4,zG5,zG6,zG7,eq_self,resV,rval,X.val,binv,fillL,setR,↓reduceIte,Nat.reduceEqDiff,Nat.reduceAdd,Nat.reduceMul,Nat.reduceLeDiff,Nat.reduceLT,Nat.reduceSub,reduceCtorEq,zGr] | ((with_reducible refine rows_intro (fun _ hb => ?_)); try simp only [set_none, ne_eq] at hb) | ((with_reducible refine new_intro (fun _ hb => ?_)); try simp only [set_none, ne_eq] at hb) | (with_reducible refine draw_same ?_) | ((with_reducible refine gd_split ?_ (fun _ => ?_) (fun _ => ?_)); exact rfl) | ((with_reducible refine td_split ?_ (fun _ => ?_) (fun _ => ?_)); exact rfl) | (with_reducible refine c_split (fun _ => ?_) (fun _ => ?_)))
  · refine ret_same (kb h ?_)
    (try simp only [beq_iff_eq, beq_eq_false_iff_ne, bne_iff_ne, bne_eq_false_iff_eq, decide_eq_true_eq, decide_eq_false_iff_not, ne_eq, Bool.not_eq_true, Bool.not_eq_false, Bool.not_eq_eq_eq_not, Bool.not_true, Bool.not_false, Int.not_lt, Int.not_le, ge_iff_le, gt_iff_lt] at *)
    simp only [false_eq_decide_iff]
    intro e; subst e; omega
  · refine loop_rule (fun n fr H' => ∃ k : Nat, n = xs.length - k ∧ k ≤ xs.length ∧ H' = H ∧ (∀ i, i < k → xs[i]? = ys[i]?) ∧ fr 0 = .slice A xs.length ca ∧ fr 1 = .slice B ys.length cb ∧ fr 5 = .int .i64 k) xs.length
      ⟨0, rfl, Nat.zero_le _, rfl, fun i hi => absurd hi (Nat.not_lt_zero _), rfl, rfl, rfl⟩ ?_
    rintro n fr _ ⟨k, rfl, hk, rfl, he, h0, h1, h5⟩
    have hl : xs.length = ys.length := by (try simp only [beq_iff_eq, beq_eq_false_iff_ne, bne_iff_ne, bne_eq_false_iff_eq, decide_eq_true_eq, decide_eq_false_iff_not, ne_eq, Bool.not_eq_true, Bool.not_eq_false, Bool.not_eq_eq_eq_not, Bool.not_true, Bool.not_false, Int.not_lt, Int.not_le, ge_iff_le, gt_iff_lt] at *); omega
    by_cases hlt : k < xs.length
    · have hlt' : k < ys.length := by omega
      have g0 := lt_dec hlt
      have g1 := rng hlt
      have g2 := rng hlt'
      have g3 := up1 hlt hn
      have p0 := hx.quad hlt
      have r0 := hy.quad hlt'
      repeat' (first | simp -implicitDefEqProofs only [zG1,zG2,zG3,zG4,zG5,zG6,zG7,eq_self,resV,rval,X.val,binv,fillL,setR,↓reduceIte,Nat.reduceEqDiff,Nat.reduceAdd,Nat.reduceMul,Nat.reduceLeDiff,Nat.reduceLT,Nat.reduceSub,reduceCtorEq,zGr, h0, h1, h5, g0, g1, g2, g3, p0, r0, Nat.add_zero, qd_eq] | ((with_reducible refine rows_intro (fun _ hb => ?_)); try simp only [set_none, ne_eq] at hb) | ((with_reducible refine new_intro (fun _ hb => ?_)); try simp only [set_none, ne_eq] at hb) | (with_reducible refine draw_same ?_) | ((with_reducible refine gd_split ?_ (fun _ => ?_) (fun _ => ?_)); exact rfl) | ((with_reducible refine td_split ?_ (fun _ => ?_) (fun _ => ?_)); exact rfl) | (with_reducible refine c_split (fun _ => ?_) (fun _ => ?_)) | (with_reducible refine eqs_five flatQuad ?_))
      · refine ret_same (kb h ?_)
        (try simp only [beq_iff_eq, beq_eq_false_iff_ne, bne_iff_ne, bne_eq_false_iff_eq, decide_eq_true_eq, decide_eq_false_iff_not, ne_eq, Bool.not_eq_true, Bool.not_eq_false, Bool.not_eq_eq_eq_not, Bool.not_true, Bool.not_false, Int.not_lt, Int.not_le, ge_iff_le, gt_iff_lt] at *)
        simp only [false_eq_decide_iff]
        rintro rfl
        exact absurd rfl ‹¬ xs[k] = _›
      · refine ⟨_, _, ?_, AHeap.le.refl _, k + 1, rfl, by omega, rfl, fun i hi => ?_, by simp [put_at, h0], by simp [put_at, h1], by simp [put_at]⟩
        · omega
        · rcases Nat.lt_succ_iff_lt_or_eq.1 hi with hi | rfl
          · exact he i hi
          · (try simp only [beq_iff_eq, beq_eq_false_iff_ne, bne_iff_ne, bne_eq_false_iff_eq, decide_eq_true_eq, decide_eq_false_iff_not, ne_eq, Bool.not_eq_true, Bool.not_eq_false, Bool.not_eq_eq_eq_not, Bool.not_true, Bool.not_false, Int.not_lt, Int.not_le, ge_iff_le, gt_iff_lt] at *)
            rw [List.getElem?_eq_getElem hlt, List.getElem?_eq_getElem hlt']
            exact congrArg some ‹_›
    · have g0 := ge_dec hlt
      repeat' (first | simp -implicitDefEqProofs only [zG1,zG2,zG3,zG4,zG5,zG6,zG7,eq_self,resV,rval,X.val,binv,fillL,setR,↓reduceIte,Nat.reduceEqDiff,Nat.reduceAdd,Nat.reduceMul,Nat.reduceLeDiff,Nat.reduceLT,Nat.reduceSub,reduceCtorEq,zGr, h0, h1, h5, g0] | ((with_reducible refine rows_intro (fun _ hb => ?_)); try simp only [set_none, ne_eq] at hb) | ((with_reducible refine new_intro (fun _ hb => ?_)); try simp only [set_none, ne_eq] at hb) | (with_reducible refine draw_same ?_) | ((with_reducible refine gd_split ?_ (fun _ => ?_) (fun _ => ?_)); exact rfl) | ((with_reducible refine td_split ?_ (fun _ => ?_) (fun _ => ?_)); exact rfl) | (with_reducible refine c_split (fun _ => ?_) (fun _ => ?_)))
      refine ret_same (kb h ?_)
      simp only [true_eq_decide_iff]
      apply List.ext_getElem?
      intro i
      by_cases hi : i < k
      · exact he i hi
      · rw [List.getElem?_eq_none (by omega), List.getElem?_eq_none (by omega)]
end Go.Proofs.Ytjhedgoafkabiaa
namespace Go.Proofs.Ytjhedgoafkabiaa
set_option linter.all false
open Go Go.RowKit Go.Joins Go.ChangeShapes Go.WideShapes Go.ChangeAt Go.Deep
set_option linter.unusedVariables false
set_option maxRecDepth 100000
theorem own : ownKnob Try.prog.godebug = none := by kernel_rfl
theorem laidOut : laidOutB Try.prog = true := by kernel_rfl
theorem calls_true {P : Program} {w0 : World} {H : AHeap} {f : Nat} {args : List Value} (h : ACalls P w0 f args H fun v _ => v = .bool true) (hs : Sat w0 H w0) :
    Calls P f args.toArray w0 fun e w' => e = .returned (.bool true) ∧ Below w0.heap.size w0 w' :=
  (h.2 w0 hs).mono fun e w' ⟨v, H', he, hs', hv⟩ => ⟨by rw [he, hv], hs'.below⟩
/-- The heap that is there: for reading alone. -/
def heapOf (w : World) : AHeap := fun b => match w.heap[b]? with
  | some (.cells c t _) => some ⟨c.toList, false, t, c.size⟩
  | _ => none
theorem sat_heap (w : World) : Sat w (heapOf w) w := ⟨Below.refl _ _, fun b k hk => by
  unfold heapOf at hk
  split at hk
  · rename_i c t fz hw
    obtain rfl := Option.some.inj hk
    exact ⟨c, fz, hw, rfl, fun j v hv => by simpa using hv, fun h => by cases h⟩
  · cases hk⟩
theorem heap_cell {w : World} {a : Addr} {v : Value} (h : w.cell? a = some v) : (heapOf w).cell (some a) = some v := by
  simp only [World.cell?] at h
  simp only [AHeap.cell, heapOf]
  split at h
  · rename_i c t fz hw
    rw [hw]
    split at h
    · cases h
    · rename_i hs
      rw [if_neg hs]
      simpa using h
  · cases h
section
variable {H : Type} {enc : TypeId × Value → H} {P : Program} {w : World} {base : Nat} {spare : Nat → Bool} {held : Bool}
theorem open_bytes {t e : TypeId} {a : Option Addr} {len cap : Nat} {d : DataW H} {p : List MemPlace} (ht : P.underlying t = some (.slice e)) (he : P.underlying e = some (.int .u8)) (hc : P.cellsOf e = 1)
    (h : DataW.Trod enc P w base spare held t (.slice a len cap) d p) : ∃ zs : List Int, zs.length = len ∧ (len ≤ cap ∧ len ≤ maxLen ∧ ∀ z ∈ zs, 0 ≤ z ∧ z < 256) ∧ Fl (heapOf w) a (zs.map (Value.int .u8 ·)) := by
  obtain ⟨fuel, hf⟩ := h
  rcases open_ints ht he hc hf with ⟨hcs, _⟩ | ⟨x, l, c, zs, hcs, _, hl, hm, hz, _, hcell, hwz⟩
  · simp [Value.cells] at hcs
    obtain ⟨rfl, rfl, rfl⟩ := hcs
    exact ⟨[], rfl, ⟨Nat.le_refl _, Nat.zero_le _, fun z hz => by cases hz⟩, Fl.nil _ _⟩
  · simp [Value.cells] at hcs
    obtain ⟨rfl, rfl, rfl⟩ := hcs
    have hz' : len ≤ zs.length := by rw [hz]; split <;> omega
    refine ⟨zs.take len, by rw [List.length_take]; omega, ⟨hl, by omega, fun z hzm => ?_⟩, fun j v hj => ?_⟩
    · have := hwz z (List.mem_of_mem_take hzm)
      have e1 : IntKind.u8.min = 0 := by decide
      have e2 : IntKind.u8.max = 255 := by decide
      simp [Lit.wf, e1, e2] at this
      omega
    · have hj' : j < len := by
        have := (List.getElem?_eq_some_iff.1 hj).1
        rw [List.length_map, List.length_take] at this
        omega
      have hjz : j < zs.length := by omega
      have := hcell j hjz
      simp only [List.map_take, List.getElem?_take, hj', if_true, List.getElem?_map, List.getElem?_eq_getElem hjz, Option.map_some, Option.some.injEq] at hj
      subst hj
      have e : zs.getD j 0 = zs[j] := by simp [List.getD, hjz]
      rw [e] at this
      exact heap_cell this
end
end Go.Proofs.Ytjhedgoafkabiaa
namespace Go.Proofs.Ytjhedgoafkabiaa
set_option linter.all false
open Go Go.RowKit
theorem stsOk_at {ss : List St} (h : stsOk ss = true) : ss.all (stOk 3) = true ∧ cntL ss ≤ 16 := by
  simpa only [stsOk, Bool.and_eq_true, decide_eq_true_eq] using h
theorem last_halt (ss : List St) (hi : szL ss < (compTask ss).length := by first | omega | (rw [compTask_len]; omega)) : (compTask ss)[szL ss] = haltQ := by
  simp only [compTask]
  rw [List.getElem_append_right (by rw [compL_len]; omega)]
  simp [compL_len]
end Go.Proofs.Ytjhedgoafkabiaa
namespace Go.Proofs.Ytjhedgoafkabiaa
set_option linter.all false
open Go Go.RowKit
/-- xs stands in qs from i on. -/
def Sub (qs : List Qd) (i : Nat) (xs : List Qd) : Prop := ∀ j (hj : j < xs.length), qs[i + j]? = some xs[j]
theorem Sub.left {qs xs ys : List Qd} {i : Nat} (h : Sub qs i (xs ++ ys)) : Sub qs i xs := fun j hj => by
  have := h j (by simp; omega)
  rwa [List.getElem_append_left hj] at this
theorem Sub.right {qs xs ys : List Qd} {i : Nat} (h : Sub qs i (xs ++ ys)) : Sub qs (i + xs.length) ys := fun j hj => by
  have := h (xs.length + j) (by simp; omega)
  rw [List.getElem_append_right (by omega)] at this
  simp only [Nat.add_sub_cancel_left] at this
  rw [Nat.add_assoc]; exact this
theorem Sub.head {qs xs : List Qd} {q : Qd} {i : Nat} (h : Sub qs i (q :: xs)) : qs[i]? = some q := h 0 (by simp)
theorem Sub.tail {qs xs : List Qd} {q : Qd} {i : Nat} (h : Sub qs i (q :: xs)) : Sub qs (i + 1) xs := fun j hj => by
  have := h (j + 1) (by simpa using hj)
  rw [show i + 1 + j = i + (j + 1) by omega]; exact this
end Go.Proofs.Ytjhedgoafkabiaa
namespace Go.Proofs.Ytjhedgoafkabiaa
set_option linter.all false
open Go Go.RowKit
/-- The registers below a. -/
def low (a : Nat) : Nat := 2 ^ a - 1
theorem low_bit (a j : Nat) : (low a).testBit j = decide (j < a) := by simp [low]
theorem low_sub {m a : Nat} : sub m (low a) ↔ ∀ j, m.testBit j = true → j < a := by
  constructor
  · intro h j hj; have := h j hj; rw [low_bit] at this; simpa using this
  · intro h j hj; rw [low_bit]; simpa using h j hj
theorem clear_bit {m : Nat} {r : Int} (h0 : 0 ≤ r) (h1 : r < 12) {j : Nat} (h : (clearM m r).testBit j = true) : m.testBit j = true ∧ (j : Int) ≠ r := by
  rw [clearM, if_pos h0, Nat.testBit_and, Bool.and_eq_true] at h
  refine ⟨h.1, fun e => ?_⟩
  obtain ⟨n, rfl⟩ := Int.eq_ofNat_of_zero_le h0
  have hn : n < 12 := by omega
  obtain rfl : j = n := by omega
  have h2 := h.2
  rw [Int.toNat_natCast] at h2
  have : ∀ x : Fin 12, (65535 - 2 ^ x.1).testBit x.1 = false := by decide
  have := this ⟨j, hn⟩
  rw [this] at h2; cases h2
theorem or_bit {l : List Nat} : ∀ {xs : List Int} {j : Nat}, (orOf l xs).testBit j = true → ∃ x ∈ xs, (lvAt l x.toNat).testBit j = true
  | [], j, h => by simp [orOf] at h
  | x :: xs, j, h => by
    simp only [orOf, Nat.testBit_or, Bool.or_eq_true] at h
    rcases h with h | h
    · exact ⟨x, by simp, h⟩
    · obtain ⟨y, hy, h'⟩ := or_bit h
      exact ⟨y, by simp [hy], h'⟩
/-- The quad at an index needs no more than the sets say. -/
def okAt (qs : List Qd) (c : List Nat) (i : Nat) : Prop := sub (upd qs c i) (lvAt c i)
theorem ok_of {qs : List Qd} {c : List Nat} {i : Nat} {q : Qd} (hq : qs[i]? = some q) (hs : setsOf q < 12) (hu : sub (usesN q) (lvAt c i))
    (hn : ∀ x ∈ nextL q i, ∀ j : Nat, (lvAt c x.toNat).testBit j = true → (j : Int) = setsOf q ∨ (lvAt c i).testBit j = true) : okAt qs c i := by
  intro j hj
  simp only [upd, hq, beforeM, Nat.testBit_or, Bool.or_eq_true] at hj
  rcases hj with hj | hj
  · have hm : (behindM qs c i).testBit j = true ∧ (j : Int) ≠ setsOf q := by
      by_cases h0 : 0 ≤ setsOf q
      · exact clear_bit h0 hs hj
      · rw [clearM, if_neg h0] at hj
        exact ⟨hj, by omega⟩
    rw [behindM] at hm
    have hna : nextAt qs i = nextL q i := by simp [nextAt, hq]
    rw [hna] at hm
    obtain ⟨x, hx, hb⟩ := or_bit hm.1
    exact (hn x hx j hb).resolve_left hm.2
  · exact hu j hj
theorem ok_out {qs : List Qd} {c : List Nat} {i : Nat} (h : qs.length ≤ i) : okAt qs c i := by
  intro j hj
  simp [upd, List.getElem?_eq_none h] at hj
/-- What is live inside an expression's quads: the registers below the one it goes to. -/
def lvE : Nat → Ex → Nat → List Nat
  | 0, _, _ => []
  | d + 1, .mk op _ args, a =>
    if op = 0 then [low a] else if op = 13 then [low a]
    else match args with
      | [x, y] => lvE d x a ++ lvE d y (a + 1) ++ [low (a + 2)]
      | _ => []
theorem lvE_len : ∀ (d : Nat) (e : Ex) (a : Nat) (i : Int), (lvE d e a).length = (comp d e i).length
  | 0, _, _, _ => rfl
  | d + 1, .mk op n args, a, i => by
    simp only [lvE, comp]
    split
    · rfl
    · split
      · rfl
      · split
        · rename_i x y
          simp only [List.length_append, lvE_len d x a i, lvE_len d y (a + 1) (i + 1), List.length_cons, List.length_nil]
        · rename_i hno
          split
          · exact absurd rfl (hno _ _)
          · rfl
/-- ms stands in c from i on. -/
def SubM (c : List Nat) (i : Nat) (ms : List Nat) : Prop := ∀ j (hj : j < ms.length), c[i + j]? = some ms[j]
theorem SubM.left {c xs ys : List Nat} {i : Nat} (h : SubM c i (xs ++ ys)) : SubM c i xs := fun j hj => by
  have := h j (by simp; omega)
  rwa [List.getElem_append_left hj] at this
theorem SubM.right {c xs ys : List Nat} {i : Nat} (h : SubM c i (xs ++ ys)) : SubM c (i + xs.length) ys := fun j hj => by
  have := h (xs.length + j) (by simp; omega)
  rw [List.getElem_append_right (by omega)] at this
  simp only [Nat.add_sub_cancel_left] at this
  rw [Nat.add_assoc]; exact this
theorem SubM.head {c xs : List Nat} {q i : Nat} (h : SubM c i (q :: xs)) : lvAt c i = q := by have := h 0 (by simp); simp only [Nat.add_zero] at this; simp [lvAt, this]
theorem SubM.tail {c xs : List Nat} {q i : Nat} (h : SubM c i (q :: xs)) : SubM c (i + 1) xs := fun j hj => by
  have := h (j + 1) (by simpa using hj)
  rw [show i + 1 + j = i + (j + 1) by omega]; exact this
/-- An expression's first quad has the registers below its own. -/
theorem lvE_head : ∀ (d : Nat) (e : Ex) (a : Nat), exprOk d e = true → ∃ r, lvE d e a = low a :: r
  | 0, _, _, h => by simp [exprOk] at h
  | d + 1, .mk op n args, a, h => by
    simp only [lvE]
    simp only [exprOk] at h
    split
    · exact ⟨[], rfl⟩
    · rename_i h0
      split
      · exact ⟨[], rfl⟩
      · rename_i h1
        rw [if_neg h0, if_neg h1] at h
        simp only [Bool.and_eq_true] at h
        split at h
        · rename_i x y
          have hx : exprOk d x = true := by have := h.2; simp only [Bool.and_eq_true] at this; exact this.1
          obtain ⟨r, hr⟩ := lvE_head d x a hx
          simp only [hr]
          exact ⟨r ++ lvE d y (a + 1) ++ [low (a + 2)], by simp⟩
        · cases h.2
theorem lvE_ok {qs : List Qd} {c : List Nat} : ∀ (d : Nat) (e : Ex) (a i : Nat), exprOk d e = true → 4 ≤ a → a + d ≤ 12 → Sub qs i (comp d e a) → SubM c i (lvE d e a) → sub (lvAt c (i + (comp d e a).length)) (low (a + 1)) →
    ∀ k, k < (comp d e a).length → okAt qs c (i + k)
  | 0, _, _, _, h, _, _, _, _, _ => by simp [exprOk] at h
  | d + 1, .mk op n args, a, i, h, h4, h12, hs, hm, hl => by
    simp only [comp] at hs hl ⊢
    simp only [lvE] at hm
    simp only [exprOk] at h
    split at h
    · rename_i h0
      rw [if_pos h0] at hs hl hm
      rw [if_pos h0]
      intro k hk
      simp at hk; subst hk
      refine ok_of hs.head ?_ ?_ ?_
      · simp [setsOf]; omega
      · intro j hj; simp [usesN] at hj
      · intro x hx j hj
        simp [nextL] at hx; subst hx
        have hl' := low_sub.1 hl j (by simpa using hj)
        rw [Nat.add_zero, hm.head, low_bit]
        simp [setsOf]; omega
    · rename_i h0
      rw [if_neg h0] at hs hl hm
      rw [if_neg h0]
      split at h
      · rename_i h1
        rw [if_pos h1] at hs hl hm
        rw [if_pos h1]
        simp only [Bool.and_eq_true, decide_eq_true_eq] at h
        intro k hk
        simp at hk; subst hk
        refine ok_of hs.head ?_ ?_ ?_
        · simp [setsOf]; omega
        · intro j hj
          rw [Nat.add_zero, hm.head, low_bit]
          simp [usesN, Nat.testBit_two_pow] at hj
          simp; omega
        · intro x hx j hj
          simp [nextL] at hx; subst hx
          have hl' := low_sub.1 hl j (by simpa using hj)
          rw [Nat.add_zero, hm.head, low_bit]
          simp [setsOf]; omega
      · rename_i h1
        rw [if_neg h1] at hs hl hm
        rw [if_neg h1]
        simp only [Bool.and_eq_true] at h
        split at h
        · rename_i x y
          obtain ⟨hx, hy⟩ : exprOk d x = true ∧ exprOk d y = true := by have := h.2; simp only [Bool.and_eq_true] at this; exact this
          simp only [List.length_append, List.length_cons, List.length_nil, Nat.zero_add] at hl ⊢
          have e1 : ((a : Int) + 1) = ((a + 1 : Nat) : Int) := by omega
          rw [e1] at hs hl ⊢
          have hd : 0 < d := by
            rcases Nat.eq_zero_or_pos d with rfl | h'
            · simp [exprOk] at hx
            · exact h'
          have s1 := hs.left.left
          have s2 := hs.left.right
          have s3 := hs.right.head
          have m1 := hm.left.left
          have m2 := hm.left.right
          have m3 := hm.right.head
          rw [lvE_len d x a a] at m2
          simp only [List.length_append, lvE_len d x a a, lvE_len d y (a + 1) ((a + 1 : Nat) : Int)] at m3
          simp only [List.length_append] at s3
          obtain ⟨r, hr⟩ := lvE_head d y (a + 1) hy
          have m2h : lvAt c (i + (comp d x a).length) = low (a + 1) := by rw [hr] at m2; exact m2.head
          have k1 := lvE_ok d x a i hx h4 (by omega) s1 m1 (by rw [m2h]; exact sub.refl _)
          have k2 := lvE_ok d y (a + 1) (i + (comp d x a).length) hy (by omega) (by omega) s2 m2 (by rw [Nat.add_assoc, m3]; exact sub.refl _)
          intro k hk
          by_cases c1 : k < (comp d x a).length
          · exact k1 k c1
          · by_cases c2 : k < (comp d x a).length + (comp d y ((a + 1 : Nat) : Int)).length
            · have := k2 (k - (comp d x a).length) (by omega)
              rw [show i + (comp d x a).length + (k - (comp d x a).length) = i + k by omega] at this
              exact this
            · obtain rfl : k = (comp d x a).length + (comp d y ((a + 1 : Nat) : Int)).length := by omega
              refine ok_of s3 ?_ ?_ ?_
              · simp [setsOf]; omega
              · intro j hj
                rw [m3, low_bit]
                simp [usesN, Nat.testBit_or, Nat.testBit_two_pow] at hj
                simp; omega
              · intro z hz j hj
                simp [nextL] at hz; subst hz
                have hl' := low_sub.1 hl j (by rw [← hj]; congr 2)
                rw [m3, low_bit]
                simp [setsOf]; omega
        · cases h.2
def lvX (e : Ex) : List Nat := lvE 5 e 4
theorem lvX_len (e : Ex) : (lvX e).length = (compE e).length := lvE_len 5 e 4 4
mutual
def lvS : St → List Nat
  | .mk k _ _ e body els =>
    if k = 2 then (if els.isEmpty then lvX e ++ low 5 :: lvL body else lvX e ++ low 5 :: (lvL body ++ low 4 :: lvL els))
    else if k = 3 then lvX e ++ low 5 :: (lvL body ++ [low 4])
    else if k = 5 ∨ k = 6 then [low 4]
    else lvX e ++ [low 5]
def lvL : List St → List Nat
  | [] => []
  | s :: ss => lvS s ++ lvL ss
end
mutual
theorem lvS_len : ∀ (s : St), (lvS s).length = szS s
  | .mk k v b e body els => by
    simp only [lvS, szS]
    split
    · split
      · simp only [List.length_append, List.length_cons, lvX_len, lvL_len body]; omega
      · simp only [List.length_append, List.length_cons, lvX_len, lvL_len body, lvL_len els]; omega
    · split
      · simp only [List.length_append, List.length_cons, List.length_nil, lvX_len, lvL_len body]; omega
      · split
        · rfl
        · simp only [List.length_append, List.length_cons, List.length_nil, lvX_len]
theorem lvL_len : ∀ (ss : List St), (lvL ss).length = szL ss
  | [] => rfl
  | s :: ss => by simp only [lvL, szL, List.length_append, lvS_len s, lvL_len ss]
end
theorem lvX_head {e : Ex} (h : exprOk 5 e = true) : ∃ r, lvX e = low 4 :: r := lvE_head 5 e 4 h
theorem lvS_head {s : St} {d : Nat} (h : stOk d s = true) : ∃ r, lvS s = low 4 :: r := by
  cases s with
  | mk k v b e body els =>
    have he := stOk_e h
    simp only [lvS]
    split
    · obtain ⟨r, hr⟩ := lvX_head (e := e) (by assumption)
      split <;> exact ⟨_, by rw [hr]; rfl⟩
    · split
      · obtain ⟨r, hr⟩ := lvX_head (e := e) (by assumption)
        exact ⟨_, by rw [hr]; rfl⟩
      · split
        · exact ⟨[], rfl⟩
        · obtain ⟨r, hr⟩ := lvX_head (e := e) (by assumption)
          exact ⟨_, by rw [hr]; rfl⟩
/-- Where statements begin, only the variables are live. -/
theorem lvL_first {c : List Nat} {ss : List St} {d i : Nat} (h : ss.all (stOk d) = true) (hm : SubM c i (lvL ss)) (hb : sub (lvAt c (i + szL ss)) (low 4)) : sub (lvAt c i) (low 4) := by
  cases ss with
  | nil => simpa [szL] using hb
  | cons s ss =>
    simp only [List.all_cons, Bool.and_eq_true] at h
    obtain ⟨r, hr⟩ := lvS_head h.1
    simp only [lvL, hr, List.cons_append] at hm
    rw [hm.head]; exact sub.refl _
/-- A quad that reads register 4 or nothing, behind which only variables are live. -/
theorem ok_last {qs : List Qd} {c : List Nat} {i a : Nat} {q : Qd} (hq : qs[i]? = some q) (hm : lvAt c i = low a) (ha : 4 ≤ a) (hs : setsOf q < 12) (hu : sub (usesN q) (low a)) (hn : ∀ x ∈ nextL q i, sub (lvAt c x.toNat) (low 4)) : okAt qs c i := by
  refine ok_of hq hs (by rw [hm]; exact hu) fun x hx j hj => .inr ?_
  have := low_sub.1 (hn x hx) j hj
  rw [hm, low_bit]; simp; omega
theorem uses4 {q : Qd} (h : q.op = 2 ∨ q.op = 5 ∨ q.op = 6 ∨ q.op = 9) (ha : q.a = 4) : sub (usesN q) (low 5) := by
  intro j hj
  have e : q.a.toNat = 4 := by rw [ha]; rfl
  rw [usesN, if_pos h, e] at hj
  rw [Nat.testBit_two_pow] at hj
  have : 4 = j := by simpa using hj
  subst this
  rw [low_bit]; rfl
theorem uses0 {q : Qd} {m : Nat} (h : ¬ (q.op = 2 ∨ q.op = 5 ∨ q.op = 6 ∨ q.op = 9)) (h3 : q.op ≠ 3) : sub (usesN q) m := by
  intro j hj
  rw [usesN, if_neg h, if_neg h3] at hj
  simp at hj
mutual
theorem lvS_ok {qs : List Qd} {c : List Nat} : ∀ (s : St) (d i : Nat), stOk d s = true → Sub qs i (compS s i) → SubM c i (lvS s) → sub (lvAt c (i + szS s)) (low 4) → ∀ k, k < szS s → okAt qs c (i + k)
  | .mk k v b e body els, d, i, h, hs, hm, hb => by
    have he := stOk_e h
    by_cases hk : k = 2 ∨ k = 3
    · have hX : ∀ (h5 : lvAt c (i + (compE e).length) = low 5), Sub qs i (compE e) → SubM c i (lvX e) → ∀ j, j < (compE e).length → okAt qs c (i + j) := fun h5 s1 m1 =>
        lvE_ok 5 e 4 i (by assumption) (by omega) (by omega) s1 m1 (by rw [show (comp 5 e ((4 : Nat) : Int)).length = (compE e).length from rfl, h5]; exact sub.refl _)
      obtain ⟨d', rfl, hbk, h1, h2⟩ := stOk_block h hk
      simp only [St.body, St.els] at h1 h2
      rcases hk with rfl | rfl
      · simp only [compS, if_true] at hs
        simp only [lvS, if_true] at hm
        simp only [szS, if_true] at hb ⊢
        by_cases hel : els.isEmpty = true
        · rw [if_pos hel] at hs hm hb ⊢
          have m2 := hm.right
          rw [lvX_len] at m2
          have hz := hs.right.head
          have hbd := hs.right.tail
          have hbm := m2.tail
          have hx := hX m2.head hs.left hm.left
          have hend : sub (lvAt c (i + (compE e).length + 1 + szL body)) (low 4) := by
            rw [show i + (compE e).length + 1 + szL body = i + ((compE e).length + 1 + szL body + 0) by omega]; exact hb
          have hB := lvL_ok body d' (i + (compE e).length + 1) h1 hbd hbm hend
          have hf := lvL_first h1 hbm hend
          intro j hj
          by_cases c1 : j < (compE e).length
          · exact hx j c1
          · by_cases c2 : j = (compE e).length
            · subst c2
              refine ok_last hz m2.head (by omega) (by simp [setsOf]) (uses4 (by simp) rfl) fun x hx => ?_
              rw [next_mem] at hx
              rcases hx.2 with ⟨_, rfl⟩ | ⟨_, rfl⟩
              · rw [Int.toNat_natCast]; exact hend
              · rw [show ((i + (compE e).length : Nat) : Int) + 1 = ((i + (compE e).length + 1 : Nat) : Int) by omega, Int.toNat_natCast]; exact hf
            · have := hB (j - (compE e).length - 1) (by omega)
              rw [show i + (compE e).length + 1 + (j - (compE e).length - 1) = i + j by omega] at this
              exact this
        · rw [if_neg hel] at hs hm hb ⊢
          have m2 := hm.right
          rw [lvX_len] at m2
          have hz := hs.right.head
          have hbd := hs.right.tail
          have hbm := m2.tail
          have hx := hX m2.head hs.left hm.left
          have hj4 := hbd.right.head
          have htl := hbd.right.tail
          have hm4 := hbm.right.head
          have hmt := hbm.right.tail
          rw [compL_len] at hj4 htl
          rw [lvL_len] at hm4 hmt
          have hend : sub (lvAt c (i + (compE e).length + 1 + szL body + 1 + szL els)) (low 4) := by
            rw [show i + (compE e).length + 1 + szL body + 1 + szL els = i + ((compE e).length + 1 + szL body + (1 + szL els)) by omega]; exact hb
          have hB := lvL_ok body d' (i + (compE e).length + 1) h1 hbd.left hbm.left (by rw [hm4]; exact sub.refl _)
          have hf := lvL_first h1 hbm.left (by rw [hm4]; exact sub.refl _)
          have hE := lvL_ok els d' (i + (compE e).length + 1 + szL body + 1) h2 htl hmt hend
          have hf2 := lvL_first h2 hmt hend
          intro j hj
          by_cases c1 : j < (compE e).length
          · exact hx j c1
          · by_cases c2 : j = (compE e).length
            · subst c2
              refine ok_last hz m2.head (by omega) (by simp [setsOf]) (uses4 (by simp) rfl) fun x hx => ?_
              rw [next_mem] at hx
              rcases hx.2 with ⟨_, rfl⟩ | ⟨_, rfl⟩
              · rw [Int.toNat_natCast]; exact hf2
              · rw [show ((i + (compE e).length : Nat) : Int) + 1 = ((i + (compE e).length + 1 : Nat) : Int) by omega, Int.toNat_natCast]; exact hf
            · by_cases c3 : j < (compE e).length + 1 + szL body
              · have := hB (j - (compE e).length - 1) (by omega)
                rw [show i + (compE e).length + 1 + (j - (compE e).length - 1) = i + j by omega] at this
                exact this
              · by_cases c4 : j = (compE e).length + 1 + szL body
                · subst c4
                  rw [show i + ((compE e).length + 1 + szL body) = i + (compE e).length + 1 + szL body by omega]
                  refine ok_last hj4 hm4 (by omega) (by simp [setsOf]) (uses0 (by simp) (by simp)) fun x hx => ?_
                  rw [next_mem] at hx
                  rcases hx.2 with ⟨_, rfl⟩ | ⟨hc, rfl⟩
                  · rw [Int.toNat_natCast]; exact hend
                  · exact absurd rfl hc
                · have := hE (j - ((compE e).length + 1 + szL body + 1)) (by omega)
                  rw [show i + (compE e).length + 1 + szL body + 1 + (j - ((compE e).length + 1 + szL body + 1)) = i + j by omega] at this
                  exact this
      · simp only [compS, if_neg (show ¬ (3 : Int) = 2 by decide), if_true] at hs
        simp only [lvS, if_neg (show ¬ (3 : Int) = 2 by decide), if_true] at hm
        simp only [szS, if_neg (show ¬ (3 : Int) = 2 by decide), if_true] at hb ⊢
        have m2 := hm.right
        rw [lvX_len] at m2
        have hz := hs.right.head
        have hbd := hs.right.tail
        have hbm := m2.tail
        have hx := hX m2.head hs.left hm.left
        have hj4 := hbd.right.head
        have hm4 := hbm.right.head
        rw [compL_len] at hj4
        rw [lvL_len] at hm4
        have hB := lvL_ok body d' (i + (compE e).length + 1) h1 hbd.left hbm.left (by rw [hm4]; exact sub.refl _)
        have hf := lvL_first h1 hbm.left (by rw [hm4]; exact sub.refl _)
        have hf0 : sub (lvAt c i) (low 4) := by
          obtain ⟨r, hr⟩ := lvX_head (e := e) (by assumption)
          have := hm.left
          rw [hr] at this
          rw [this.head]; exact sub.refl _
        intro j hj
        by_cases c1 : j < (compE e).length
        · exact hx j c1
        · by_cases c2 : j = (compE e).length
          · subst c2
            refine ok_last hz m2.head (by omega) (by simp [setsOf]) (uses4 (by simp) rfl) fun x hx => ?_
            rw [next_mem] at hx
            rcases hx.2 with ⟨_, rfl⟩ | ⟨_, rfl⟩
            · rw [Int.toNat_natCast, show i + (compE e).length + 1 + szL body + 1 = i + ((compE e).length + 2 + szL body) by omega]; exact hb
            · rw [show ((i + (compE e).length : Nat) : Int) + 1 = ((i + (compE e).length + 1 : Nat) : Int) by omega, Int.toNat_natCast]; exact hf
          · by_cases c3 : j < (compE e).length + 1 + szL body
            · have := hB (j - (compE e).length - 1) (by omega)
              rw [show i + (compE e).length + 1 + (j - (compE e).length - 1) = i + j by omega] at this
              exact this
            · obtain rfl : j = (compE e).length + 1 + szL body := by omega
              rw [show i + ((compE e).length + 1 + szL body) = i + (compE e).length + 1 + szL body by omega]
              refine ok_last hj4 hm4 (by omega) (by simp [setsOf]) (uses0 (by simp) (by simp)) fun x hx => ?_
              rw [next_mem] at hx
              rcases hx.2 with ⟨_, rfl⟩ | ⟨hc, rfl⟩
              · rw [Int.toNat_natCast]; exact hf0
              · exact absurd rfl hc
    · have hsm := stOk_simple h (fun e => hk (.inl e)) (fun e => hk (.inr e))
      obtain ⟨q, e0, hv, n10, n4, n5, eq⟩ := simple_q hsm i
      have hkk := simple_kind hsm
      have hx5 : exprOk 5 e = true := by assumption
      simp only [St.kind, St.var, St.box, St.e] at eq
      have hvar : k = 1 ∨ k = 5 → v < 12 := by
        intro hk1
        have hv0 := hv 0
        rcases hk1 with rfl | rfl
        all_goals
          simp at eq; subst eq
          simp [quadValid, isReg] at hv0
          omega
      simp only [St.kind, St.var, St.box, St.e] at hkk
      have hnx : ∀ (p : Nat), p + 1 = i + szS (.mk k v b e body els) → ∀ x ∈ nextL q p, sub (lvAt c x.toNat) (low 4) := by
        intro p hp x hx
        rw [next_mem] at hx
        rcases hx.2 with ⟨h', _⟩ | ⟨_, rfl⟩
        · omega
        · rw [show ((p : Int) + 1) = ((p + 1 : Nat) : Int) by omega, Int.toNat_natCast, hp]; exact hb
      simp only [szS, if_neg (show ¬ k = 2 by omega), if_neg (show ¬ k = 3 by omega)] at hb hnx ⊢
      simp only [lvS, if_neg (show ¬ k = 2 by omega), if_neg (show ¬ k = 3 by omega)] at hm
      by_cases h56 : k = 5 ∨ k = 6
      · rw [if_pos h56] at hm hb hnx ⊢
        have e1 : compS (.mk k v b e body els) i = [q] := by rw [e0]; simp [St.kind, h56]
        rw [e1] at hs
        intro j hj
        obtain rfl : j = 0 := by omega
        refine ok_last hs.head hm.head (by omega) ?_ ?_ (hnx _ (by omega))
        · rcases h56 with rfl | rfl <;> simp at eq <;> subst eq <;> simp [setsOf]
          have := hvar (.inr rfl); omega
        · rcases h56 with rfl | rfl <;> simp at eq <;> subst eq <;> exact uses0 (by simp) (by simp)
      · rw [if_neg h56] at hm hb hnx ⊢
        have e1 : compS (.mk k v b e body els) i = compE e ++ [q] := by rw [e0]; simp [St.kind, St.e, h56]
        rw [e1] at hs
        have m2 := hm.right
        rw [lvX_len] at m2
        have hz := hs.right.head
        have hx := lvE_ok 5 e 4 i hx5 (by omega) (by omega) hs.left hm.left (by rw [show (comp 5 e ((4 : Nat) : Int)).length = (compE e).length from rfl, m2.head]; exact sub.refl _)
        intro j hj
        by_cases c1 : j < (compE e).length
        · exact hx j c1
        · obtain rfl : j = (compE e).length := by omega
          have hq : q.a = 4 ∧ (q.op = 2 ∨ q.op = 6 ∨ q.op = 9) ∧ setsOf q < 12 := by
            rcases hkk with rfl | rfl | rfl | rfl | rfl
            all_goals first | (exact absurd (by decide) h56) | skip
            all_goals (simp at eq; subst eq; simp [setsOf])
            have := hvar (.inl rfl); omega
          exact ok_last hz m2.head (by omega) hq.2.2 (uses4 (by omega) hq.1) (hnx _ (by omega))
theorem lvL_ok {qs : List Qd} {c : List Nat} : ∀ (ss : List St) (d i : Nat), ss.all (stOk d) = true → Sub qs i (compL ss i) → SubM c i (lvL ss) → sub (lvAt c (i + szL ss)) (low 4) → ∀ k, k < szL ss → okAt qs c (i + k)
  | [], _, _, _, _, _, _ => by intro k hk; simp [szL] at hk
  | s :: ss, d, i, h, hs, hm, hb => by
    simp only [List.all_cons, Bool.and_eq_true] at h
    simp only [compL] at hs
    simp only [lvL] at hm
    simp only [szL] at hb ⊢
    have hs2 := hs.right
    have hm2 := hm.right
    rw [compS_len] at hs2
    rw [lvS_len] at hm2
    have hb2 : sub (lvAt c (i + szS s + szL ss)) (low 4) := by rw [Nat.add_assoc]; exact hb
    have k1 := lvS_ok s d i h.1 hs.left hm.left (lvL_first h.2 hm2 hb2)
    have k2 := lvL_ok ss d (i + szS s) h.2 hs2 hm2 hb2
    intro k hk
    by_cases c1 : k < szS s
    · exact k1 k c1
    · have := k2 (k - szS s) (by omega)
      rw [show i + szS s + (k - szS s) = i + k by omega] at this
      exact this
end
theorem task_live {ss : List St} (h : stsOk ss = true) : (∀ j, (lvAt (liveL (compTask ss)) 0).testBit j = true → j < 4) ∧ lvAt (liveL (compTask ss)) (szL ss) = 0 := by
  have hv := compTask_valid h
  have hlen := compTask_len ss
  have hall := (stsOk_at h).1
  have hs : Sub (compTask ss) 0 (compL ss 0) := fun j hj => by
    rw [compTask, Nat.zero_add, List.getElem?_append_left hj, List.getElem?_eq_getElem hj]
  have hm : SubM (lvL ss ++ [0]) 0 (lvL ss) := fun j hj => by
    rw [Nat.zero_add, List.getElem?_append_left hj, List.getElem?_eq_getElem hj]
  have hl0 : lvAt (lvL ss ++ [0]) (szL ss) = 0 := by simp [lvAt, ← lvL_len]
  have hend : sub (lvAt (lvL ss ++ [0]) (0 + szL ss)) (low 4) := by
    rw [Nat.zero_add, hl0]; intro j hj; simp at hj
  have hok := lvL_ok ss 3 0 hall hs hm hend
  have hc : ∀ i, sub (upd (compTask ss) (lvL ss ++ [0]) i) (lvAt (lvL ss ++ [0]) i) := fun i => by
    by_cases h1 : i < szL ss
    · have := hok i h1; rwa [Nat.zero_add] at this
    · by_cases h2 : i = szL ss
      · subst h2
        have hq : (compTask ss)[szL ss]? = some haltQ := by rw [List.getElem?_eq_getElem (by omega), last_halt]
        refine ok_of hq (by decide) (fun j hj => ?_) fun x hx => ?_
        · simp [usesN, haltQ] at hj
        · simp [nextL, haltQ] at hx
      · exact ok_out (by omega)
  obtain ⟨n, hn⟩ := live_term hv
  have hbl := iter_below hc n
  rw [← live_eq hn] at hbl
  refine ⟨fun j hj => ?_, ?_⟩
  · exact low_sub.1 (lvL_first hall hm hend) j (hbl 0 j hj)
  · have := hbl (szL ss)
    rw [hl0] at this
    exact sub.anti this (fun j hj => by simp at hj)
end Go.Proofs.Ytjhedgoafkabiaa
namespace Go.Proofs.Ytjhedgoafkabiaa
set_option linter.all false
open Go Go.RowKit
set_option maxRecDepth 100000
theorem hasTrue_no (w0 : World) (H : AHeap) (K : Value → AHeap → Prop) (A : Option Addr) (c : Nat) (xs : List Bool) (hx : Fl H A (bools xs)) (hn : xs.length ≤ 1048576) (hf : ∀ b ∈ xs, b = false) (h : K (.bool false) H) : ACalls Try.prog w0 31 [.slice A xs.length c] H K := by
  refine acalls_of_sx mix Try.func31 of31 (by simp [ir31]) ?_; rw [ir31]; (try delta qT qI qC qO qM qG)
  repeat' (first | simp -implicitDefEqProofs only [zG1,zG2,zG3,zG4,zG5,zG6,zG7,eq_self,resV,rval,X.val,binv,fillL,setR,↓reduceIte,Nat.reduceEqDiff,Nat.reduceAdd,Nat.reduceMul,Nat.reduceLeDiff,Nat.reduceLT,Nat.reduceSub,reduceCtorEq,zGq] | ((with_reducible refine rows_intro (fun _ hb => ?_)); try simp only [set_none, ne_eq] at hb) | ((with_reducible refine new_intro (fun _ hb => ?_)); try simp only [set_none, ne_eq] at hb) | (with_reducible refine draw_same ?_) | ((with_reducible refine gd_split ?_ (fun _ => ?_) (fun _ => ?_)); exact rfl) | ((with_reducible refine td_split ?_ (fun _ => ?_) (fun _ => ?_)); exact rfl) | (with_reducible refine c_split (fun _ => ?_) (fun _ => ?_)))
  refine for_rule xs.length (fun k fr C => C = H ∧ fr 0 = .slice A xs.length c ∧ fr 3 = .int .i64 k) ⟨rfl, (by first | rfl | (simp only [put_at, ↓reduceIte, Nat.reduceEqDiff]; first | done | rfl | assumption) | simp [put_at, *]), (by first | rfl | (simp only [put_at, ↓reduceIte, Nat.reduceEqDiff]; first | done | rfl | assumption) | simp [put_at, *])⟩ ?_ ?_
  · rintro k fr _ hk ⟨rfl, f0, f3⟩ N hN
    have g0 := lt_dec hk
    have g1 := rng hk
    have g2 := up1 hk (by omega)
    have q0 := hx.bools_is hk
    have q1 := hx.bool hk
    rw [hf _ (List.getElem_mem hk)] at q1
    repeat' (first | simp -implicitDefEqProofs only [zG1,zG2,zG3,zG4,zG5,zG6,zG7,eq_self,resV,rval,X.val,binv,fillL,setR,↓reduceIte,Nat.reduceEqDiff,Nat.reduceAdd,Nat.reduceMul,Nat.reduceLeDiff,Nat.reduceLT,Nat.reduceSub,reduceCtorEq,zGq, f0, f3, g0, g1, g2, q0, q1, Nat.mul_one] | ((with_reducible refine rows_intro (fun _ hb => ?_)); try simp only [set_none, ne_eq] at hb) | ((with_reducible refine new_intro (fun _ hb => ?_)); try simp only [set_none, ne_eq] at hb) | (with_reducible refine draw_same ?_) | ((with_reducible refine gd_split ?_ (fun _ => ?_) (fun _ => ?_)); exact rfl) | ((with_reducible refine td_split ?_ (fun _ => ?_) (fun _ => ?_)); exact rfl) | (with_reducible refine c_split (fun _ => ?_) (fun _ => ?_)))
    exact hN _ _ _ (.refl _) ⟨rfl, (by first | rfl | (simp only [put_at, ↓reduceIte, Nat.reduceEqDiff]; first | done | rfl | assumption) | simp [put_at, *]), (by first | rfl | (simp only [put_at, ↓reduceIte, Nat.reduceEqDiff]; first | done | rfl | assumption) | simp [put_at, *])⟩
  · rintro fr _ ⟨rfl, f0, f3⟩ N
    have g0 : decide ((xs.length : Int) < (xs.length : Int)) = false := by simp
    repeat' (first | simp -implicitDefEqProofs only [zG1,zG2,zG3,zG4,zG5,zG6,zG7,eq_self,resV,rval,X.val,binv,fillL,setR,↓reduceIte,Nat.reduceEqDiff,Nat.reduceAdd,Nat.reduceMul,Nat.reduceLeDiff,Nat.reduceLT,Nat.reduceSub,reduceCtorEq,zGq, f0, f3, g0] | ((with_reducible refine rows_intro (fun _ hb => ?_)); try simp only [set_none, ne_eq] at hb) | ((with_reducible refine new_intro (fun _ hb => ?_)); try simp only [set_none, ne_eq] at hb) | (with_reducible refine draw_same ?_) | ((with_reducible refine gd_split ?_ (fun _ => ?_) (fun _ => ?_)); exact rfl) | ((with_reducible refine td_split ?_ (fun _ => ?_) (fun _ => ?_)); exact rfl) | (with_reducible refine c_split (fun _ => ?_) (fun _ => ?_)))
    exact ret_same h
end Go.Proofs.Ytjhedgoafkabiaa
namespace Go.Proofs.Ytjhedgoafkabiaa
set_option linter.all false
open Go Go.RowKit
set_option maxRecDepth 100000
variable (w0 : World)
theorem StR.take {H : AHeap} : ∀ {ss : List St} {A : Option Addr} {i : Nat} (k : Nat), StR H ss A i → StR H (ss.take k) A i
  | [], _, _, _, _ => by simp [StR]
  | _ :: _, _, _, 0, _ => by simp [StR]
  | s :: ss, A, i, k + 1, h => by
    simp only [List.take_succ_cons, StR] at h ⊢
    exact ⟨h.1, h.2.take k⟩
theorem StR.drop {H : AHeap} : ∀ {ss : List St} {A : Option Addr} {i : Nat} (k : Nat), StR H ss A i → StR H (ss.drop k) A (i + k)
  | [], _, _, _, _ => by simp [StR]
  | _ :: _, _, _, 0, h => h
  | s :: ss, A, i, k + 1, h => by
    simp only [List.drop_succ_cons, StR] at h ⊢
    have := h.2.drop k
    rw [show i + 1 + k = i + (k + 1) by omega] at this
    exact this
end Go.Proofs.Ytjhedgoafkabiaa
namespace Go.Proofs.Ytjhedgoafkabiaa
set_option linter.all false
open Go Go.RowKit
def shQ (b : Nat) (q : Qd) : Qd := if q.op = 4 ∨ q.op = 5 then ⟨q.op, q.dst, q.a, q.b, q.n + b⟩ else q
theorem Fl.post {H : AHeap} {A : Option Addr} {xs ys : List Value} (h : Fl H A (xs ++ ys)) : Fl H (adr A xs.length) ys := fun j v hv => by
  rw [adr_adr]
  exact h _ v (by rw [List.getElem?_append_right (by omega), Nat.add_sub_cancel_left]; exact hv)
/-- The first quads moved, the others not yet. -/
def part (B : Nat) (X : List Qd) (i : Nat) : List Qd := (X.take i).map (shQ B) ++ X.drop i
end Go.Proofs.Ytjhedgoafkabiaa
namespace Go.Proofs.Ytjhedgoafkabiaa
set_option linter.all false
open Go Go.RowKit Go.Joins Go.ChangeShapes Go.WideShapes Go.ChangeAt Go.Deep
set_option linter.unusedVariables false
set_option maxRecDepth 100000
theorem lawLiveCompiled_ok (w0 : World) (H : AHeap) (K : Value → AHeap → Prop) (A : Option Addr) (n c : Nat) (zs : List Int) (hF : Fl H A (u8s zs)) (hr : ∀ z ∈ zs, 0 ≤ z ∧ z < 256) (hl : zs.length = n) (hc : n ≤ c) (h : ∀ H', K (.bool true) H') :
    ACalls Try.prog w0 13 [.slice A n c] H K := by
  refine acalls_of_sx mix Try.func13 of13 (by simp [ir13]) ?_; rw [ir13]; (try delta qT qI qC qO qM qG)
  repeat' (first | simp -implicitDefEqProofs only [zG1,zG2,zG3,zG4,zG5,zG6,zG7,eq_self,resV,rval,X.val,binv,fillL,setR,↓reduceIte,Nat.reduceEqDiff,Nat.reduceAdd,Nat.reduceMul,Nat.reduceLeDiff,Nat.reduceLT,Nat.reduceSub,reduceCtorEq,zGq] | ((with_reducible refine rows_intro (fun _ hb => ?_)); try simp only [set_none, ne_eq] at hb) | ((with_reducible refine new_intro (fun _ hb => ?_)); try simp only [set_none, ne_eq] at hb) | (with_reducible refine draw_same ?_) | ((with_reducible refine gd_split ?_ (fun _ => ?_) (fun _ => ?_)); exact rfl) | ((with_reducible refine td_split ?_ (fun _ => ?_) (fun _ => ?_)); exact rfl) | (with_reducible refine c_split (fun _ => ?_) (fun _ => ?_)))
  · exact ret_same (h _)
  refine drawCompileTask_ok _ _ _ A n c zs hF hr hl hc (fun ss A1 c1 C hR hcn hlc => ?_)
  obtain ⟨hln, hcap⟩ := hlc
  repeat' (first | simp -implicitDefEqProofs only [zG1,zG2,zG3,zG4,zG5,zG6,zG7,eq_self,resV,rval,X.val,binv,fillL,setR,↓reduceIte,Nat.reduceEqDiff,Nat.reduceAdd,Nat.reduceMul,Nat.reduceLeDiff,Nat.reduceLT,Nat.reduceSub,reduceCtorEq,zGq] | ((with_reducible refine rows_intro (fun _ hb => ?_)); try simp only [set_none, ne_eq] at hb) | ((with_reducible refine new_intro (fun _ hb => ?_)); try simp only [set_none, ne_eq] at hb) | (with_reducible refine draw_same ?_) | ((with_reducible refine gd_split ?_ (fun _ => ?_) (fun _ => ?_)); exact rfl) | ((with_reducible refine td_split ?_ (fun _ => ?_) (fun _ => ?_)); exact rfl) | (with_reducible refine c_split (fun _ => ?_) (fun _ => ?_)))
  refine compileTask_ok _ ss A1 c1 C _ (by omega) hR (fun v1 C1 r1 => ?_)
  have l1 := r1.hle
  obtain ⟨A2, c2, rfl, f1⟩ := r1.fl
  repeat' (first | simp -implicitDefEqProofs only [zG1,zG2,zG3,zG4,zG5,zG6,zG7,eq_self,resV,rval,X.val,binv,fillL,setR,↓reduceIte,Nat.reduceEqDiff,Nat.reduceAdd,Nat.reduceMul,Nat.reduceLeDiff,Nat.reduceLT,Nat.reduceSub,reduceCtorEq,zGq] | ((with_reducible refine rows_intro (fun _ hb => ?_)); try simp only [set_none, ne_eq] at hb) | ((with_reducible refine new_intro (fun _ hb => ?_)); try simp only [set_none, ne_eq] at hb) | (with_reducible refine draw_same ?_) | ((with_reducible refine gd_split ?_ (fun _ => ?_) (fun _ => ?_)); exact rfl) | ((with_reducible refine td_split ?_ (fun _ => ?_) (fun _ => ?_)); exact rfl) | (with_reducible refine c_split (fun _ => ?_) (fun _ => ?_)))
  refine compileTaskS_ok _ ss A1 c1 C1 _ (by omega) (hR.le l1) (fun v2 C2 r2 => ?_)
  have l2 := r2.hle
  obtain ⟨A3, c3, rfl, f2⟩ := r2.fl
  have f1' := f1.le l2
  have hR2 := hR.le (l1.trans l2)
  have hle := compileTask_le ss
  cases ho : stsOk ss with
  | false =>
    have e : compileTask ss = [] := by simp [compileTask, ho]
    rw [e] at f1' f2
    repeat' (first | simp -implicitDefEqProofs only [zG1,zG2,zG3,zG4,zG5,zG6,zG7,eq_self,resV,rval,X.val,binv,fillL,setR,↓reduceIte,Nat.reduceEqDiff,Nat.reduceAdd,Nat.reduceMul,Nat.reduceLeDiff,Nat.reduceLT,Nat.reduceSub,reduceCtorEq,zGq, e, bne_self_eq_false, beq_self_eq_true, decide_true, List.length_nil] | ((with_reducible refine rows_intro (fun _ hb => ?_)); try simp only [set_none, ne_eq] at hb) | ((with_reducible refine new_intro (fun _ hb => ?_)); try simp only [set_none, ne_eq] at hb) | (with_reducible refine draw_same ?_) | ((with_reducible refine gd_split ?_ (fun _ => ?_) (fun _ => ?_)); exact rfl) | ((with_reducible refine td_split ?_ (fun _ => ?_) (fun _ => ?_)); exact rfl) | (with_reducible refine c_split (fun _ => ?_) (fun _ => ?_)) | (refine sameCode_ok _ _ _ A2 A3 c2 c3 [] [] f1' f2 (by simp) ?_))
    exact ret_same (h _)
  | true =>
    have e : compileTask ss = compTask ss := by simp [compileTask, ho]
    rw [e] at f1' f2 hle
    have hv := compTask_valid ho
    have hlen := compTask_len ss
    repeat' (first | simp -implicitDefEqProofs only [zG1,zG2,zG3,zG4,zG5,zG6,zG7,eq_self,resV,rval,X.val,binv,fillL,setR,↓reduceIte,Nat.reduceEqDiff,Nat.reduceAdd,Nat.reduceMul,Nat.reduceLeDiff,Nat.reduceLT,Nat.reduceSub,reduceCtorEq,zGq, e, bne_self_eq_false, beq_self_eq_true, decide_true] | ((with_reducible refine rows_intro (fun _ hb => ?_)); try simp only [set_none, ne_eq] at hb) | ((with_reducible refine new_intro (fun _ hb => ?_)); try simp only [set_none, ne_eq] at hb) | (with_reducible refine draw_same ?_) | ((with_reducible refine gd_split ?_ (fun _ => ?_) (fun _ => ?_)); exact rfl) | ((with_reducible refine td_split ?_ (fun _ => ?_) (fun _ => ?_)); exact rfl) | (with_reducible refine c_split (fun _ => ?_) (fun _ => ?_)) | (with_reducible refine sameCode_ok _ _ _ A2 A3 c2 c3 _ _ f1' f2 (by omega) ?_))
    refine liveOf_ok _ _ _ A2 c2 _ f1' (fun v3 C3 b3 l3 n3 r3 => ?_)
    rw [show liveOf (compTask ss) = liveL (compTask ss) by simp [liveOf, hv]] at r3
    obtain ⟨t0, t1⟩ := task_live ho
    have hll := live_len hv
    have hpos : 0 < (compTask ss).length := by omega
    obtain ⟨L, hL⟩ : ∃ L, L = ((liveL (compTask ss)).map flagsM).map bools := ⟨_, rfl⟩
    rw [← hL] at r3
    have hLl : L.length = (compTask ss).length := by rw [hL]; simp [hll]
    have e0 : L[0]'(by omega) = bools (flagsM (lvAt (liveL (compTask ss)) 0)) := by subst hL; simp [lvAt, hll, hpos]
    have e1 : L[szL ss]'(by omega) = bools (flagsM (lvAt (liveL (compTask ss)) (szL ss))) := by subst hL; simp [lvAt, hll, hlen]
    clear hL
    obtain ⟨A4, c4, rfl⟩ := r3.slice
    obtain ⟨gA, x0, ib0, n0, q0, w0', -, -, -⟩ := r3.inner (i := 0) (by omega)
    obtain ⟨-, x1, ib1, n1, q1, w1', -, -, -⟩ := r3.inner (i := szL ss) (by omega)
    have z0 := w0'.len
    have z1 := w1'.len
    rw [e0, bools_len, flagsM_len] at z0
    rw [e1, bools_len, flagsM_len] at z1
    obtain rfl : n0 = 12 := by omega
    obtain rfl : n1 = 12 := by omega
    obtain ⟨B0, d0, rfl, g0⟩ := w0'.fl
    obtain ⟨B1, d1, rfl, g1⟩ := w1'.fl
    have cap0 := w0'.cap_.2
    rw [e0] at g0
    rw [e1, t1] at g1
    have g0' : Fl C3 (adr B0 (4 * 1)) (bools ((flagsM (lvAt (liveL (compTask ss)) 0)).drop 4)) := by
      have hsp : bools (flagsM (lvAt (liveL (compTask ss)) 0)) = bools ((flagsM (lvAt (liveL (compTask ss)) 0)).take 4) ++ bools ((flagsM (lvAt (liveL (compTask ss)) 0)).drop 4) := by
        simp only [bools, ← List.map_append, List.take_append_drop]
      rw [hsp] at g0
      have := g0.post
      rw [bools_len, List.length_take, flagsM_len] at this
      exact this
    have no0 : ∀ b ∈ (flagsM (lvAt (liveL (compTask ss)) 0)).drop 4, b = false := by
      intro b hb
      obtain ⟨i, hi, rfl⟩ := List.getElem_of_mem hb
      rw [List.length_drop, flagsM_len] at hi
      have h2 : (flagsM (lvAt (liveL (compTask ss)) 0))[4 + i]'(by rw [flagsM_len]; omega) = (lvAt (liveL (compTask ss)) 0).testBit (4 + i) := by simp [flagsM]
      rw [List.getElem_drop, h2]
      cases hbit : (lvAt (liveL (compTask ss)) 0).testBit (4 + i) with
      | false => rfl
      | true => have := t0 _ hbit; omega
    have no1 : ∀ b ∈ flagsM 0, b = false := by rw [flagsM_zero]; intro b hb; exact List.eq_of_mem_replicate hb
    have w5 : IntKind.i64.wrap (((compTask ss).length : Int) - 1) = ((szL ss : Nat) : Int) := by rw [hlen, wrap_i64 (by omega) (by omega)]; omega
    have gi := rng (k := szL ss) (n := L.length) (by omega)
    have gj : ((0 : Int) ≤ 0 ∧ (0 : Int) < (L.length : Int)) = True := by simp; omega
    rw [adr_zero] at q0
    have gL : ((L.length : Int) == ((compTask ss).length : Int)) = true := by rw [hLl]; simp
    have gc : ¬ d0 = 4 := by omega
    have g3 : bnds 12 d0 (some (.int .i64 4)) none none = some (4, 12, d0) := by simp [bnds, bndv]
    have run0 : ∀ (cc : Nat) (D : Value → AHeap → Prop), D (.bool false) C3 → ACalls Try.prog w0 31 [.slice (adr B0 (4 * 1)) 8 cc] C3 D := fun cc D hD => by
      have := hasTrue_no w0 C3 D (adr B0 (4 * 1)) cc _ g0' (by rw [List.length_drop, flagsM_len]; omega) no0 hD
      rwa [List.length_drop, flagsM_len] at this
    have run1 : ∀ (cc : Nat) (D : Value → AHeap → Prop), D (.bool false) C3 → ACalls Try.prog w0 31 [.slice B1 12 cc] C3 D := fun cc D hD => by
      have := hasTrue_no w0 C3 D B1 cc _ g1 (by rw [flagsM_len]; omega) no1 hD
      rwa [flagsM_len] at this
    repeat' (first | simp -implicitDefEqProofs only [zG1,zG2,zG3,zG4,zG5,zG6,zG7,eq_self,resV,rval,X.val,binv,fillL,setR,↓reduceIte,Nat.reduceEqDiff,Nat.reduceAdd,Nat.reduceMul,Nat.reduceLeDiff,Nat.reduceLT,Nat.reduceSub,reduceCtorEq,zGq, gL, gi, gj, gA, q0, q1, w5, g3, gc, Int.toNat_zero, Option.map_none, Option.map_some, Nat.mul_one, Nat.zero_mul, adr_zero, if_false] | ((with_reducible refine rows_intro (fun _ hb => ?_)); try simp only [set_none, ne_eq] at hb) | ((with_reducible refine new_intro (fun _ hb => ?_)); try simp only [set_none, ne_eq] at hb) | (with_reducible refine draw_same ?_) | ((with_reducible refine gd_split ?_ (fun _ => ?_) (fun _ => ?_)); exact rfl) | ((with_reducible refine td_split ?_ (fun _ => ?_) (fun _ => ?_)); exact rfl) | (with_reducible refine c_split (fun _ => ?_) (fun _ => ?_)) | (with_reducible refine run0 _ _ ?_) | (with_reducible refine run1 _ _ ?_))
    exact ret_same (h _)
namespace fnLiveCompiled
theorem lifted (os : Os) (started : os.Started) (H : Type) (enc : TypeId × Value → H) :
    ReturnsInHanded {} Try.checked os 13 .any (Rows.fnLiveCompiledSpec.pre6 enc Try.prog Try.f13 Rows.fnLiveCompiledRow.domain false) (Rows.fnLiveCompiledSpec.post enc Try.prog Try.f13 false true false false) := by
  refine returnsInHanded_of_change_sized (C := Try.checked) own started (by kernel_rfl) Try.func13
    (ChangeSpec.witness6 (enc := enc) (C := Try.checked) false ⟨#[], #[.slice none 0 0], []⟩ 8 (by kernel_rfl) (by kernel_rfl) (by kernel_rfl) (by kernel_rfl)) ?_
  intro W base args ds gs before hval0 hW hcnd hsz0 _
  have hval : ∀ (j : Nat) t v, Try.f13.params[j]? = some t → args[j]? = some v → Value.okWide Try.prog W .any base t v := hval0
  have hW' := hW
  obtain ⟨p, q, hA0, hV, rfl, hfz, hnd⟩ := hW
  have hA : DataW.TrodAll enc Try.prog W 0 (fun _ => true) true Try.f13.params.toList args.toList ds p := hA0
  rw [Try.params13] at hA hval
  obtain ⟨v0, vs0, d0, ds0, p0, q0, hargs, rfl, rfl, h0, r0⟩ := trodAll_cons hA
  obtain ⟨rfl, rfl, rfl⟩ := trodAll_nil r0
  obtain rfl : args = #[v0] := by cases args; simp_all
  obtain ⟨rfl, rfl⟩ := trodVars_none hV
  have k0 := h0
  have lt0 : ∀ x ∈ p0, x.block < W.heap.size := by obtain ⟨m, hm⟩ := k0; exact DataW.trod_lt m _ _ _ hm
  obtain ⟨a0, len0, cap0, rfl⟩ := okWide_slice Try.underlying22 (hval 0 22 v0 rfl rfl)
  obtain ⟨z0, hl0, hb0, f0⟩ := open_bytes Try.underlying22 Try.underlying5 (by kernel_rfl) h0
  subst hl0
  refine (calls_true (lawLiveCompiled_ok W (heapOf W) _ a0 z0.length cap0 z0 f0 hb0.2.2 rfl hb0.1 (fun _ => rfl)) (sat_heap W)).mono fun e W' ⟨he, bel⟩ => ?_
  subst he
  exact ⟨_, rfl, _, _, _, [], _, [], hW', trodAll_mk1 (shut_bool Try.underlying4 _), (trodAll_cons_mk (Below.trod laidOut (by kernel_rfl) (of_decide_eq_true (by kernel_rfl)) k0 bel lt0) trodAll_mk0), rfl, bel.frame _, fun h => by cases h⟩
theorem over : Rows.fnLiveCompiledRow.holds Try.pinned (OpenSpec.ofChange Rows.fnLiveCompiledSpec) :=
  OpenClaim.holds_of_wide 13 Try.f13 rfl rfl rfl rfl rfl rfl rfl ⟨rfl, rfl, rfl, rfl, rfl⟩ rfl rfl rfl rfl rfl (by kernel_rfl) Try.func13 (by kernel_rfl)
    (of_decide_eq_true (by kernel_rfl)) (by unfold Func.isWrapper; first | (rw [if_pos (by decide +kernel)]; kernel_rfl) | (rw [if_neg (by decide +kernel)]; exact ⟨rfl, rfl⟩))
    (fun os started H enc _ => lifted os started H enc)
end fnLiveCompiled
theorem fnLiveCompiled_holds : Rows.FnLiveCompiledSaid := fnLiveCompiled.over
#print axioms fnLiveCompiled_holds
end Go.Proofs.Ytjhedgoafkabiaa
