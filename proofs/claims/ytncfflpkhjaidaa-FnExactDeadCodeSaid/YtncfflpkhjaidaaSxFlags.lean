/- Sets of registers as flags. -/
import Derived.Test.YtncfflpkhjaidaaSxLive
import Derived.Test.YtncfflpkhjaidaaSxHold
namespace Go.Proofs.Ytncfflpkhjaidaa
set_option linter.all false
open Go Go.RowKit
def flagsM (m : Nat) : List Bool := (List.range 12).map (m.testBit ·)
theorem flagsM_len (m : Nat) : (flagsM m).length = 12 := by simp [flagsM]
theorem flagsM_at {m r : Nat} (h : r < 12) : (flagsM m)[r]? = some (m.testBit r) := by simp [flagsM, h]
theorem flagsM_ge (m : Nat) {r : Nat} (h : ¬ r < 12) : (flagsM m)[r]? = none := by rw [List.getElem?_eq_none (by rw [flagsM_len]; omega)]
theorem flagsM_ext {l : List Bool} {m : Nat} (hl : l.length = 12) (h : ∀ r, r < 12 → l[r]? = some (m.testBit r)) : l = flagsM m := by
  apply List.ext_getElem?
  intro r
  by_cases hr : r < 12
  · rw [h r hr, flagsM_at hr]
  · rw [flagsM_ge m hr, List.getElem?_eq_none (by omega)]
theorem flagsM_inj {a b : Nat} (ha : a < 4096) (hb : b < 4096) (h : flagsM a = flagsM b) : a = b := by
  apply Nat.eq_of_testBit_eq
  intro j
  by_cases hj : j < 12
  · have := flagsM_at (m := a) hj
    rw [h, flagsM_at hj] at this
    exact (Option.some.inj this).symm
  · have h1 : 4096 ≤ 2 ^ j := Nat.pow_le_pow_right (n := 2) (by omega) (show 12 ≤ j by omega)
    rw [Nat.testBit_lt_two_pow (by omega), Nat.testBit_lt_two_pow (by omega)]
theorem bit_not : ∀ r j : Fin 12, (65535 - 2 ^ r.1).testBit j.1 = decide (j ≠ r) := by decide +kernel
theorem flags_clear {m r : Nat} (hr : r < 12) : (flagsM m).set r false = flagsM (m &&& (65535 - 2 ^ r)) := by
  refine flagsM_ext (by rw [List.length_set, flagsM_len]) fun j hj => ?_
  rw [List.getElem?_set, Nat.testBit_and, bit_not ⟨r, hr⟩ ⟨j, hj⟩, flagsM_len]
  by_cases h : r = j
  · subst h; simp [hr]
  · rw [if_neg h, flagsM_at hj]
    have : (⟨j, hj⟩ : Fin 12) ≠ ⟨r, hr⟩ := fun e => h (by simpa using e.symm)
    simp [this]
theorem flags_or {m r : Nat} (hr : r < 12) : (flagsM m).set r true = flagsM (m ||| 2 ^ r) := by
  refine flagsM_ext (by rw [List.length_set, flagsM_len]) fun j hj => ?_
  rw [List.getElem?_set, Nat.testBit_or, Nat.testBit_two_pow, flagsM_len]
  by_cases h : r = j
  · subst h; simp [hr]
  · rw [if_neg h, flagsM_at hj]; simp [h]
theorem flagsM_zero : flagsM 0 = List.replicate 12 false := by decide
/-- Between a and a ||| b, up to r. -/
def flagsTo (a b r : Nat) : List Bool := (List.range 12).map fun j => if j < r then (a ||| b).testBit j else a.testBit j
theorem flagsTo_len (a b r : Nat) : (flagsTo a b r).length = 12 := by simp [flagsTo]
theorem flagsTo_zero (a b : Nat) : flagsTo a b 0 = flagsM a := by simp [flagsTo, flagsM]
theorem flagsTo_end (a b : Nat) : flagsTo a b 12 = flagsM (a ||| b) := by
  refine flagsM_ext (flagsTo_len _ _ _) fun j hj => ?_
  simp [flagsTo, hj]
theorem flagsTo_at {a b r : Nat} (hr : r < 12) : (flagsTo a b r)[r]? = some (a.testBit r) := by simp [flagsTo, hr]
theorem flagsTo_set {a b r : Nat} (hr : r < 12) : (flagsTo a b r).set r (a.testBit r || b.testBit r) = flagsTo a b (r + 1) := by
  apply List.ext_getElem?
  intro j
  rw [List.getElem?_set, flagsTo_len]
  by_cases h : r = j
  · subst h; rw [if_pos rfl, if_pos hr]; simp [flagsTo, hr, Nat.testBit_or]
  · rw [if_neg h]
    by_cases hj : j < 12
    · simp only [flagsTo, List.getElem?_map, List.getElem?_range hj, Option.map_some]
      congr 1
      have : (j < r) = (j < r + 1) := by simp; omega
      simp only [this]
    · rw [List.getElem?_eq_none (by rw [flagsTo_len]; omega), List.getElem?_eq_none (by rw [flagsTo_len]; omega)]
theorem orOf_snoc (l : List Nat) (x : Int) : ∀ xs, orOf l (xs ++ [x]) = orOf l xs ||| lvAt l x.toNat
  | [] => by simp [orOf]
  | y :: r => by simp only [List.cons_append, orOf, orOf_snoc l x r, Nat.or_assoc]
theorem orOf_take {l : List Nat} {xs : List Int} {k : Nat} (h : k < xs.length) : orOf l (xs.take (k + 1)) = orOf l (xs.take k) ||| lvAt l (xs[k]).toNat := by
  rw [List.take_add_one, List.getElem?_eq_getElem h]
  exact orOf_snoc l _ _
def u16s (l : List Nat) : List Value := l.map fun (n : Nat) => Value.int .u16 (n : Int)
theorem u16s_len (l : List Nat) : (u16s l).length = l.length := by simp [u16s]
theorem u16s_at {l : List Nat} {i : Nat} (h : i < l.length) : (u16s l)[i]? = some (.int .u16 ((lvAt l i : Nat) : Int)) := by simp [u16s, lvAt, h]
theorem u16s_set (l : List Nat) (i x : Nat) : (u16s l).set i (.int .u16 (x : Int)) = u16s (l.set i x) := by simp [u16s, List.map_set]
theorem repl_u16 (n : Nat) : repl [.int .u16 0] n = u16s (List.replicate n 0) := by
  induction n with
  | zero => rfl
  | succ n ih => simp only [repl, ih, u16s, List.replicate_succ, List.map_cons]; rfl
theorem sets_lt {q : Qd} {m : Int} (h : quadValid q m = true) : setsOf q < 12 := by
  simp only [setsOf]
  split
  · rename_i ho
    rcases ho with ho | ho | ho | ho <;> simp only [quadValid, ho] at h <;> simp [isReg] at h <;> omega
  · omega
theorem u16_not {a r : Nat} (ha : a < 4096) (hr : r < 12) : bits .andNot .u16 (a : Int) ((2 ^ r : Nat) : Int) = ((a &&& (65535 - 2 ^ r) : Nat) : Int) := by
  have : 2 ^ r < 4096 := Nat.pow_lt_pow_right (by omega) (show r < 12 from hr)
  exact u16_andNot_nat a (2 ^ r) (by omega) (by omega)
theorem valid_more {q : Qd} {m m' : Int} (h : quadValid q m = true) (hm : m ≤ m') : quadValid q m' = true := by
  simp only [quadValid] at h ⊢
  repeat' split at h
  all_goals first
    | (cases h; done)
    | (simp_all; done)
    | (simp_all; omega)
def rowsM (l : List Nat) : List (List Value) := l.map fun m => bools (flagsM m)
theorem rowsM_eq (l : List Nat) : rowsM l = (l.map flagsM).map bools := by simp [rowsM]
theorem rowsM_len (l : List Nat) : (rowsM l).length = l.length := by simp [rowsM]
theorem rowsM_at {l : List Nat} {i : Nat} (h : i < l.length) : (rowsM l)[i]'(by rw [rowsM_len]; exact h) = bools (flagsM (lvAt l i)) := by simp [rowsM, lvAt, h]
theorem rowsM_set (l : List Nat) (i x : Nat) : (rowsM l).set i (bools (flagsM x)) = rowsM (l.set i x) := by simp [rowsM, List.map_set]
theorem mkB12 {t : TypeId} {D : Value → AHeap → Prop} {H : AHeap} (h : ∀ b, H b = none → D (.slice (some ⟨b, 0, none⟩) 12 12) (H.set b ⟨bools (flagsM 0), true, t, 12 * 1⟩)) : mkK [.bool false] t 1 (.int .i64 12) (.int .i64 12) D H :=
  ⟨by decide, by decide, by decide, by decide, by intro b hb; have := h b hb; rw [flagsM_zero] at this; exact this⟩
noncomputable def liveOf (qs : List Qd) : List Nat := if codeValid qs then liveL qs else []
theorem rowsM_snoc (l : List Nat) (m : Nat) : rowsM (l ++ [m]) = rowsM l ++ [bools (flagsM m)] := by simp [rowsM]
theorem liveOf_le (qs : List Qd) : ((liveOf qs).map flagsM).length ≤ 600 ∧ ∀ x ∈ (liveOf qs).map flagsM, x.length ≤ 12 := by
  refine ⟨?_, fun x hx => ?_⟩
  · rw [List.length_map]
    cases hv : codeValid qs with
    | false => simp [liveOf, hv]
    | true => simp only [liveOf, hv, if_true]; rw [live_len hv]; exact (code_at hv).2.1
  · obtain ⟨m, _, rfl⟩ := List.mem_map.1 hx
    rw [flagsM_len]; exact Nat.le_refl _
noncomputable def liveOut (qs : List Qd) (i : Int) : List Bool := if codeValid qs && decide (0 ≤ i) && decide (i < qs.length) then flagsM (behindM qs (liveL qs) i.toNat) else []
theorem liveOut_bad {qs : List Qd} {i : Int} (h : ¬ (codeValid qs = true ∧ 0 ≤ i ∧ i < qs.length)) : liveOut qs i = [] := by
  simp only [liveOut]
  rw [if_neg (by simpa only [Bool.and_eq_true, decide_eq_true_eq, and_assoc] using h)]
theorem liveOut_good {qs : List Qd} {k : Nat} (h : codeValid qs = true) (h2 : k < qs.length) : liveOut qs k = flagsM (behindM qs (liveL qs) k) := by simp [liveOut, h, h2]
theorem liveOut_le (qs : List Qd) (i : Int) : (liveOut qs i).length ≤ 12 := by
  unfold liveOut
  split
  · rw [flagsM_len]; exact Nat.le_refl _
  · simp
end Go.Proofs.Ytncfflpkhjaidaa
