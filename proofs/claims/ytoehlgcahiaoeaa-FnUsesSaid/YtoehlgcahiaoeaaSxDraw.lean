/- The reader of drawn numbers: l6Open, pick, and the small draws. -/
import Derived.Test.YtoehlgcahiaoeaaSxQuad
import Derived.Test.YtoehlgcahiaoeaaSxOwn
namespace Go.Proofs.Ytoehlgcahiaoeaa
set_option linter.all false
open Go Go.RowKit
set_option maxRecDepth 100000
def u8s (zs : List Int) : List Value := zs.map (Value.int .u8 ·)
theorem u8s_len (zs : List Int) : (u8s zs).length = zs.length := by simp [u8s]
/-- The reader's block. -/
def rk (A : Option Addr) (n c : Nat) (p : Int) : Blk := ⟨[.slice A n c, .int .i64 p], true, 79, 2⟩
theorem rk_cells (A : Option Addr) (n c : Nat) (p : Int) : (rk A n c p).cells = [.slice A n c, .int .i64 p] := by exact id rfl
theorem rk_own (A : Option Addr) (n c : Nat) (p : Int) : (rk A n c p).own = true := by exact id rfl
theorem rk_mk (A : Option Addr) (n c : Nat) (p q : Int) : (⟨[.slice A n c, .int .i64 q], true, (rk A n c p).ty, (rk A n c p).cap⟩ : Blk) = rk A n c q := by exact id rfl
theorem rk_mk' (A : Option Addr) (n c : Nat) (q : Int) : (⟨[.slice A n c, .int .i64 q], true, 79, 2⟩ : Blk) = rk A n c q := by exact id rfl
/-- The reader's block keeps its place at the end. -/
theorem set_rk {H : AHeap} {b x : Nat} {A : Option Addr} {n c : Nat} {p : Int} {k : Blk} (h : ¬ x = b) : (H.set b (rk A n c p)).set x k = (H.set x k).set b (rk A n c p) := set_comm fun e => h e.symm
structure Rdr (H : AHeap) (A : Option Addr) (n : Nat) (zs : List Int) (b : Nat) : Prop where
  fl : Fl H A (u8s zs)
  rng : ∀ z ∈ zs, 0 ≤ z ∧ z < 256
  len : zs.length = n
  max : n ≤ 2000
  new : H b = none
theorem Rdr.fresh {H : AHeap} {A : Option Addr} {n : Nat} {zs : List Int} {b x : Nat} {k : Blk} (h : Rdr H A n zs b) (hx : H x = none) (hn : ¬ x = b) : Rdr (H.set x k) A n zs b :=
  ⟨h.fl.fresh hx k, h.rng, h.len, h.max, by rw [set_ne fun e => hn e.symm]; exact h.new⟩
theorem Rdr.le {H H' : AHeap} {A : Option Addr} {n : Nat} {zs : List Int} {b : Nat} (h : Rdr H A n zs b) (hl : AHeap.le H H') (hb : H' b = none) : Rdr H' A n zs b := ⟨h.fl.le hl, h.rng, h.len, h.max, hb⟩
theorem xor_nonneg {a b : Int} (h1 : 0 ≤ a) (h2 : a < 9223372036854775808) (h3 : 0 ≤ b) (h4 : b < 9223372036854775808) : 0 ≤ bits .xor .i64 a b := by
  obtain ⟨x, rfl⟩ := Int.eq_ofNat_of_zero_le h1
  obtain ⟨y, rfl⟩ := Int.eq_ofNat_of_zero_le h3
  have hx : x ^^^ y < 2 ^ 63 := Nat.xor_lt_two_pow (by omega) (by omega)
  show 0 ≤ IntKind.i64.wrap ((BitVec.ofInt 64 (x : Int) ^^^ BitVec.ofInt 64 (y : Int)).toNat : Int)
  have e1 : (BitVec.ofInt 64 (x : Int)).toNat = x := by rw [BitVec.ofInt_natCast, BitVec.toNat_ofNat]; exact Nat.mod_eq_of_lt (by omega)
  have e2 : (BitVec.ofInt 64 (y : Int)).toNat = y := by rw [BitVec.ofInt_natCast, BitVec.toNat_ofNat]; exact Nat.mod_eq_of_lt (by omega)
  rw [BitVec.toNat_xor, e1, e2, wrap_i64 (by omega) (by omega)]
  omega
theorem tmod_in {a k : Int} (h : 0 ≤ a) (hk : 1 ≤ k) : 0 ≤ a.tmod k ∧ a.tmod k < k := ⟨Int.tmod_nonneg k h, Int.tmod_lt_of_pos a (by omega)⟩
variable (w0 : World) (H : AHeap) (K : Value → AHeap → Prop)
theorem l6Open_ok (A : Option Addr) (n c : Nat) (zs : List Int) (hF : Fl H A (u8s zs)) (hr : ∀ z ∈ zs, 0 ≤ z ∧ z < 256) (hl : zs.length = n) (hc : n ≤ c)
    (h : ∀ b n' c' zs', H b = none → Rdr H A n' zs' b → K (.pointer (some ⟨b, 0, none⟩)) (H.set b (rk A n' c' 0))) : ACalls Try.prog w0 45 [.slice A n c] H K := by
  by_cases hbig : 2000 < n
  · have g0 : decide ((n : Int) > 2000) = true := by simp; omega
    have g1 : bnds n c none (some (.int .i64 2000)) none = some (0, 2000, c) := by
      have : (2000 : Int) ≤ c := by omega
      simp [bnds, bndv, this]
    refine acalls_of_sx mix Try.func45 of45 (by simp [ir45]) ?_; rw [ir45]
    repeat' (first | simp -implicitDefEqProofs only [a1,a2,a3,a4,a5,a6,a7,a8,a9,a10,a11,a12,a13,a14,a15,a16,a17,a18,a19,a20,a21,a22,a23,a24,a25,a26,a27,a28,a29,a30,a31,a32,a33,b1,b2,b3,b4,b5,b6,b7,b8,b9,b10,b11,b12,b13,b14,b15,b16,b17,b18,b19,b20,b21,b22,b23,b24,b25,b26,b27,b28,b29,b30,b31,b32,b33,c1,c2,c3,c4,c5,c6,c7,c8,c9,c10,c11,c12,c13,c14,c15,c16,c17,c18,c19,c20,c21,c22,c23,c24,c25,c26,c27,c28,c29,c30,c31,c32,c33,c34,c35,c36,le_refl_true,true_and,and_true,needs_some,needs_map,put_at,fr0_zero,fr0_succ,fr0_nil,resV,rval,X.val,binv,adr_adr,adr_zero,adr_lit,adr_some,cell_same,rdn_F,rdnF_zero,rdnF_succ,v_cells,v_size,List.getElem?_cons_succ,List.getElem?_cons_zero,Option.isSome_some,Option.bind_some,Option.map_some,fillL,setR,List.set_cons_zero,List.set_cons_succ,vcI,vcB,vcS,vcP,vcF,vcA,vcU,List.toList_toArray,and_self,List.length_cons,List.length_nil,List.size_toArray,List.map_cons,List.map_nil,List.nil_append,List.append_nil,List.cons_append,Int.toNat_natCast,↓reduceIte,Nat.reduceEqDiff,Nat.reduceAdd,Nat.reduceMul,Nat.reduceLeDiff,Nat.reduceLT,Nat.reduceSub,Nat.zero_add,reduceCtorEq,bne_self_eq_false,false_bne',true_bne',cell_ne,cell_ne',set_same,set_ne,set_ne',set_set,st_eq,some_ex,all_cons,all_nil',ocI,ocB,ocS,ocP,not_false_eq_true,eq_self,Bool.not_true,Bool.not_false,ldnV_p, g0, g1, Option.map_none, Nat.zero_mul, ite_self, Nat.sub_zero, rk_mk'] | ((with_reducible refine rows_intro (fun _ hb => ?_)); try simp only [set_none, ne_eq] at hb) | ((with_reducible refine new_intro (fun _ hb => ?_)); try simp only [set_none, ne_eq] at hb) | (with_reducible refine draw_same ?_) | ((with_reducible refine gd_split ?_ (fun _ => ?_) (fun _ => ?_)); exact rfl) | ((with_reducible refine td_split ?_ (fun _ => ?_) (fun _ => ?_)); exact rfl) | (with_reducible refine c_split (fun _ => ?_) (fun _ => ?_)))
    refine ret_same (h _ _ _ (zs.take 2000) ‹_› ⟨fun j v hj => ?_, fun z hz => hr z (List.mem_of_mem_take hz), by simp; omega, Nat.le_refl _, ‹_›⟩)
    refine hF j v ?_
    simp only [u8s, List.map_take, List.getElem?_take] at hj
    split at hj
    · exact hj
    · cases hj
  · have g0 : decide ((n : Int) > 2000) = false := by simp; omega
    refine acalls_of_sx mix Try.func45 of45 (by simp [ir45]) ?_; rw [ir45]
    repeat' (first | simp -implicitDefEqProofs only [a1,a2,a3,a4,a5,a6,a7,a8,a9,a10,a11,a12,a13,a14,a15,a16,a17,a18,a19,a20,a21,a22,a23,a24,a25,a26,a27,a28,a29,a30,a31,a32,a33,b1,b2,b3,b4,b5,b6,b7,b8,b9,b10,b11,b12,b13,b14,b15,b16,b17,b18,b19,b20,b21,b22,b23,b24,b25,b26,b27,b28,b29,b30,b31,b32,b33,c1,c2,c3,c4,c5,c6,c7,c8,c9,c10,c11,c12,c13,c14,c15,c16,c17,c18,c19,c20,c21,c22,c23,c24,c25,c26,c27,c28,c29,c30,c31,c32,c33,c34,c35,c36,le_refl_true,true_and,and_true,needs_some,needs_map,put_at,fr0_zero,fr0_succ,fr0_nil,resV,rval,X.val,binv,adr_adr,adr_zero,adr_lit,adr_some,cell_same,rdn_F,rdnF_zero,rdnF_succ,v_cells,v_size,List.getElem?_cons_succ,List.getElem?_cons_zero,Option.isSome_some,Option.bind_some,Option.map_some,fillL,setR,List.set_cons_zero,List.set_cons_succ,vcI,vcB,vcS,vcP,vcF,vcA,vcU,List.toList_toArray,and_self,List.length_cons,List.length_nil,List.size_toArray,List.map_cons,List.map_nil,List.nil_append,List.append_nil,List.cons_append,Int.toNat_natCast,↓reduceIte,Nat.reduceEqDiff,Nat.reduceAdd,Nat.reduceMul,Nat.reduceLeDiff,Nat.reduceLT,Nat.reduceSub,Nat.zero_add,reduceCtorEq,bne_self_eq_false,false_bne',true_bne',cell_ne,cell_ne',set_same,set_ne,set_ne',set_set,st_eq,some_ex,all_cons,all_nil',ocI,ocB,ocS,ocP,not_false_eq_true,eq_self,Bool.not_true,Bool.not_false,ldnV_p, g0, rk_mk'] | ((with_reducible refine rows_intro (fun _ hb => ?_)); try simp only [set_none, ne_eq] at hb) | ((with_reducible refine new_intro (fun _ hb => ?_)); try simp only [set_none, ne_eq] at hb) | (with_reducible refine draw_same ?_) | ((with_reducible refine gd_split ?_ (fun _ => ?_) (fun _ => ?_)); exact rfl) | ((with_reducible refine td_split ?_ (fun _ => ?_) (fun _ => ?_)); exact rfl) | (with_reducible refine c_split (fun _ => ?_) (fun _ => ?_)))
    exact ret_same (h _ _ _ zs ‹_› ⟨hF, hr, hl, by omega, ‹_›⟩)
theorem pick_ok (A : Option Addr) (n c : Nat) (zs : List Int) (b : Nat) (p k : Int) (hr : Rdr H A n zs b) (h0 : 0 ≤ p) (h1 : p ≤ 1099511627776) (hk : 1 ≤ k)
    (h : ∀ v, 0 ≤ v → v < k → K (.int .i64 v) (H.set b (rk A n c (p + 1)))) : ACalls Try.prog w0 64 [.pointer (some ⟨b, 0, none⟩), .int .i64 k] (H.set b (rk A n c p)) K := by
  have e1 : IntKind.i64.wrap (p + 1) = p + 1 := wrap_i64 (by omega) (by omega)
  have e2 : IntKind.i64.wrap (p + 1 - 1) = p := by rw [wrap_i64 (by omega) (by omega)]; omega
  have e3 : decide (k < 1) = false := by simp; omega
  cases hz : zs with
  | nil =>
    have hn : n = 0 := by rw [← hr.len, hz]; rfl
    subst hn
    have g0 : (((0 : Nat) : Int) == 0) = true := by decide
    refine acalls_of_sx mix Try.func64 of64 (by simp [ir64]) ?_; rw [ir64]
    repeat' (first | simp -implicitDefEqProofs only [a1,a2,a3,a4,a5,a6,a7,a8,a9,a10,a11,a12,a13,a14,a15,a16,a17,a18,a19,a20,a21,a22,a23,a24,a25,a26,a27,a28,a29,a30,a31,a32,a33,b1,b2,b3,b4,b5,b6,b7,b8,b9,b10,b11,b12,b13,b14,b15,b16,b17,b18,b19,b20,b21,b22,b23,b24,b25,b26,b27,b28,b29,b30,b31,b32,b33,c1,c2,c3,c4,c5,c6,c7,c8,c9,c10,c11,c12,c13,c14,c15,c16,c17,c18,c19,c20,c21,c22,c23,c24,c25,c26,c27,c28,c29,c30,c31,c32,c33,c34,c35,c36,le_refl_true,true_and,and_true,needs_some,needs_map,put_at,fr0_zero,fr0_succ,fr0_nil,resV,rval,X.val,binv,adr_adr,adr_zero,adr_lit,adr_some,cell_same,rdn_F,rdnF_zero,rdnF_succ,v_cells,v_size,List.getElem?_cons_succ,List.getElem?_cons_zero,Option.isSome_some,Option.bind_some,Option.map_some,fillL,setR,List.set_cons_zero,List.set_cons_succ,vcI,vcB,vcS,vcP,vcF,vcA,vcU,List.toList_toArray,and_self,List.length_cons,List.length_nil,List.size_toArray,List.map_cons,List.map_nil,List.nil_append,List.append_nil,List.cons_append,Int.toNat_natCast,↓reduceIte,Nat.reduceEqDiff,Nat.reduceAdd,Nat.reduceMul,Nat.reduceLeDiff,Nat.reduceLT,Nat.reduceSub,Nat.zero_add,reduceCtorEq,bne_self_eq_false,false_bne',true_bne',cell_ne,cell_ne',set_same,set_ne,set_ne',set_set,st_eq,some_ex,all_cons,all_nil',ocI,ocB,ocS,ocP,not_false_eq_true,eq_self,Bool.not_true,Bool.not_false,ldnV_p, rk_cells, rk_own, rk_mk, e1, e2, e3, g0] | ((with_reducible refine rows_intro (fun _ hb => ?_)); try simp only [set_none, ne_eq] at hb) | ((with_reducible refine new_intro (fun _ hb => ?_)); try simp only [set_none, ne_eq] at hb) | (with_reducible refine draw_same ?_) | ((with_reducible refine gd_split ?_ (fun _ => ?_) (fun _ => ?_)); exact rfl) | ((with_reducible refine td_split ?_ (fun _ => ?_) (fun _ => ?_)); exact rfl) | (with_reducible refine c_split (fun _ => ?_) (fun _ => ?_)))
    exact ret_same (h 0 (by omega) (by omega))
  | cons z0 zt =>
    have hn0 : 0 < n := by rw [← hr.len, hz]; simp
    have hmx := hr.max
    have hget : ∀ i : Nat, i < n → ∃ x : Int, (0 ≤ x ∧ x < 256) ∧ (H.set b (rk A n c (p + 1))).cell (adr A i) = some (.int .u8 x) := by
      intro i hi
      have hi' : i < zs.length := by rw [hr.len]; exact hi
      exact ⟨zs[i], hr.rng _ (List.getElem_mem hi'), (hr.fl.fresh hr.new _) i _ (by simp [u8s, hi'])⟩
    have hA : A.isSome = true := (hr.fl.is (i := 0) (by rw [u8s_len, hr.len]; exact hn0))
    have g0 : (((n : Nat) : Int) == 0) = false := by simp; omega
    by_cases hp : p < n
    · have g1 : decide (p < (n : Int)) = true := by simp; omega
      obtain ⟨q, rfl⟩ : ∃ q : Nat, p = q := ⟨p.toNat, by omega⟩
      obtain ⟨x, ⟨hx0, hx1⟩, hx⟩ := hget q (by omega)
      have g2 := rng (k := q) (n := n) (by omega)
      have g3 : ¬ k = 0 := by omega
      refine acalls_of_sx mix Try.func64 of64 (by simp [ir64]) ?_; rw [ir64]
      repeat' (first | simp -implicitDefEqProofs only [a1,a2,a3,a4,a5,a6,a7,a8,a9,a10,a11,a12,a13,a14,a15,a16,a17,a18,a19,a20,a21,a22,a23,a24,a25,a26,a27,a28,a29,a30,a31,a32,a33,b1,b2,b3,b4,b5,b6,b7,b8,b9,b10,b11,b12,b13,b14,b15,b16,b17,b18,b19,b20,b21,b22,b23,b24,b25,b26,b27,b28,b29,b30,b31,b32,b33,c1,c2,c3,c4,c5,c6,c7,c8,c9,c10,c11,c12,c13,c14,c15,c16,c17,c18,c19,c20,c21,c22,c23,c24,c25,c26,c27,c28,c29,c30,c31,c32,c33,c34,c35,c36,le_refl_true,true_and,and_true,needs_some,needs_map,put_at,fr0_zero,fr0_succ,fr0_nil,resV,rval,X.val,binv,adr_adr,adr_zero,adr_lit,adr_some,cell_same,rdn_F,rdnF_zero,rdnF_succ,v_cells,v_size,List.getElem?_cons_succ,List.getElem?_cons_zero,Option.isSome_some,Option.bind_some,Option.map_some,fillL,setR,List.set_cons_zero,List.set_cons_succ,vcI,vcB,vcS,vcP,vcF,vcA,vcU,List.toList_toArray,and_self,List.length_cons,List.length_nil,List.size_toArray,List.map_cons,List.map_nil,List.nil_append,List.append_nil,List.cons_append,Int.toNat_natCast,↓reduceIte,Nat.reduceEqDiff,Nat.reduceAdd,Nat.reduceMul,Nat.reduceLeDiff,Nat.reduceLT,Nat.reduceSub,Nat.zero_add,reduceCtorEq,bne_self_eq_false,false_bne',true_bne',cell_ne,cell_ne',set_same,set_ne,set_ne',set_set,st_eq,some_ex,all_cons,all_nil',ocI,ocB,ocS,ocP,not_false_eq_true,eq_self,Bool.not_true,Bool.not_false,ldnV_p, rk_cells, rk_own, rk_mk, e1, e2, e3, g0, g1, g2, g3, hA, hx, Nat.mul_one] | ((with_reducible refine rows_intro (fun _ hb => ?_)); try simp only [set_none, ne_eq] at hb) | ((with_reducible refine new_intro (fun _ hb => ?_)); try simp only [set_none, ne_eq] at hb) | (with_reducible refine draw_same ?_) | ((with_reducible refine gd_split ?_ (fun _ => ?_) (fun _ => ?_)); exact rfl) | ((with_reducible refine td_split ?_ (fun _ => ?_) (fun _ => ?_)); exact rfl) | (with_reducible refine c_split (fun _ => ?_) (fun _ => ?_)))
      obtain ⟨t0, t1⟩ := tmod_in (a := IntKind.i64.wrap x) (k := k) (by rw [wrap_i64 (by omega) (by omega)]; exact hx0) hk
      exact ret_same (h _ t0 t1)
    · have g1 : decide (p < (n : Int)) = false := by simp; omega
      have e4 : IntKind.i64.wrap (p * 7) = p * 7 := wrap_i64 (by omega) (by omega)
      have e5 : IntKind.i64.wrap (p * 7 + 3) = p * 7 + 3 := wrap_i64 (by omega) (by omega)
      obtain ⟨i1, i1'⟩ := tmod_in (a := p) (k := (n : Int)) h0 (by omega)
      obtain ⟨i2, i2'⟩ := tmod_in (a := p * 7 + 3) (k := (n : Int)) (by omega) (by omega)
      obtain ⟨j1, hj1⟩ : ∃ j : Nat, p.tmod n = j := ⟨(p.tmod n).toNat, by omega⟩
      obtain ⟨j2, hj2⟩ : ∃ j : Nat, (p * 7 + 3).tmod n = j := ⟨((p * 7 + 3).tmod n).toNat, by omega⟩
      obtain ⟨x, ⟨hx0, hx1⟩, hx⟩ := hget j1 (by omega)
      obtain ⟨y, ⟨hy0, hy1⟩, hy⟩ := hget j2 (by omega)
      have g2 := rng (k := j1) (n := n) (by omega)
      have g3 := rng (k := j2) (n := n) (by omega)
      have g4 : ¬ k = 0 := by omega
      have g5 : ¬ ((n : Nat) : Int) = 0 := by omega
      have g6 : ¬ (64 : Int) = 0 := by decide
      obtain ⟨d0, d1⟩ : 0 ≤ p.tdiv n ∧ p.tdiv n ≤ p := ⟨Int.tdiv_nonneg h0 (by omega), by rw [Int.tdiv_eq_ediv_of_nonneg h0]; exact Int.ediv_le_self _ h0⟩
      have r1 : IntKind.i64.wrap x = x := wrap_i64 (by omega) (by omega)
      have r2 : IntKind.i64.wrap y = y := wrap_i64 (by omega) (by omega)
      have r3 : IntKind.i64.wrap (p.tdiv n) = p.tdiv n := wrap_i64 (by omega) (by omega)
      have r4 : IntKind.i64.wrap (x * 131) = x * 131 := wrap_i64 (by omega) (by omega)
      have r5 : IntKind.i64.wrap (y * 1117) = y * 1117 := wrap_i64 (by omega) (by omega)
      have r6 : IntKind.i64.wrap (x * 131 + y * 1117) = x * 131 + y * 1117 := wrap_i64 (by omega) (by omega)
      have r7 : IntKind.i64.wrap (p * 29) = p * 29 := wrap_i64 (by omega) (by omega)
      have r8 : IntKind.i64.wrap (x * 131 + y * 1117 + p * 29) = x * 131 + y * 1117 + p * 29 := wrap_i64 (by omega) (by omega)
      have r9 : IntKind.i64.wrap (p.tdiv n * 53) = p.tdiv n * 53 := wrap_i64 (by omega) (by omega)
      have r10 : IntKind.i64.wrap (x * 131 + y * 1117 + p * 29 + p.tdiv n * 53) = x * 131 + y * 1117 + p * 29 + p.tdiv n * 53 := wrap_i64 (by omega) (by omega)
      refine acalls_of_sx mix Try.func64 of64 (by simp [ir64]) ?_; rw [ir64]
      repeat' (first | simp -implicitDefEqProofs only [a1,a2,a3,a4,a5,a6,a7,a8,a9,a10,a11,a12,a13,a14,a15,a16,a17,a18,a19,a20,a21,a22,a23,a24,a25,a26,a27,a28,a29,a30,a31,a32,a33,b1,b2,b3,b4,b5,b6,b7,b8,b9,b10,b11,b12,b13,b14,b15,b16,b17,b18,b19,b20,b21,b22,b23,b24,b25,b26,b27,b28,b29,b30,b31,b32,b33,c1,c2,c3,c4,c5,c6,c7,c8,c9,c10,c11,c12,c13,c14,c15,c16,c17,c18,c19,c20,c21,c22,c23,c24,c25,c26,c27,c28,c29,c30,c31,c32,c33,c34,c35,c36,le_refl_true,true_and,and_true,needs_some,needs_map,put_at,fr0_zero,fr0_succ,fr0_nil,resV,rval,X.val,binv,adr_adr,adr_zero,adr_lit,adr_some,cell_same,rdn_F,rdnF_zero,rdnF_succ,v_cells,v_size,List.getElem?_cons_succ,List.getElem?_cons_zero,Option.isSome_some,Option.bind_some,Option.map_some,fillL,setR,List.set_cons_zero,List.set_cons_succ,vcI,vcB,vcS,vcP,vcF,vcA,vcU,List.toList_toArray,and_self,List.length_cons,List.length_nil,List.size_toArray,List.map_cons,List.map_nil,List.nil_append,List.append_nil,List.cons_append,Int.toNat_natCast,↓reduceIte,Nat.reduceEqDiff,Nat.reduceAdd,Nat.reduceMul,Nat.reduceLeDiff,Nat.reduceLT,Nat.reduceSub,Nat.zero_add,reduceCtorEq,bne_self_eq_false,false_bne',true_bne',cell_ne,cell_ne',set_same,set_ne,set_ne',set_set,st_eq,some_ex,all_cons,all_nil',ocI,ocB,ocS,ocP,not_false_eq_true,eq_self,Bool.not_true,Bool.not_false,ldnV_p, rk_cells, rk_own, rk_mk, e1, e2, e3, e4, e5, g0, g1, g2, g3, g4, g5, g6, hj1, hj2, hA, hx, hy, Nat.mul_one, r1, r2, r3, r4, r5, r6, r7, r8, r9, r10] | ((with_reducible refine rows_intro (fun _ hb => ?_)); try simp only [set_none, ne_eq] at hb) | ((with_reducible refine new_intro (fun _ hb => ?_)); try simp only [set_none, ne_eq] at hb) | (with_reducible refine draw_same ?_) | ((with_reducible refine gd_split ?_ (fun _ => ?_) (fun _ => ?_)); exact rfl) | ((with_reducible refine td_split ?_ (fun _ => ?_) (fun _ => ?_)); exact rfl) | (with_reducible refine c_split (fun _ => ?_) (fun _ => ?_)))
      have hX : 0 ≤ x * 131 + y * 1117 + p * 29 + p.tdiv n * 53 := by omega
      have hX' : x * 131 + y * 1117 + p * 29 + p.tdiv n * 53 < 9223372036854775808 := by omega
      generalize x * 131 + y * 1117 + p * 29 + p.tdiv n * 53 = X at hX hX' ⊢
      obtain ⟨q0, q1⟩ : 0 ≤ X.tdiv 64 ∧ X.tdiv 64 ≤ X := ⟨Int.tdiv_nonneg hX (by omega), by rw [Int.tdiv_eq_ediv_of_nonneg hX]; exact Int.ediv_le_self _ hX⟩
      obtain ⟨t0, t1⟩ := tmod_in (a := bits .xor .i64 X (IntKind.i64.wrap (X.tdiv 64))) (k := k) (by rw [wrap_i64 (by omega) (by omega)]; exact xor_nonneg hX hX' q0 (by omega)) hk
      exact ret_same (h _ t0 t1)
end Go.Proofs.Ytoehlgcahiaoeaa
