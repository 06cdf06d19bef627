/- The contracts of usesOf, of the register sets and of QuadUses, both sides. -/
import Derived.Test.YtfjhjfddgdokgaaSxQuad
import Derived.Test.YtfjhjfddgdokgaaSxOwn
namespace Go.Proofs.Ytfjhjfddgdokgaa
set_option linter.all false
open Go Go.RowKit
set_option maxRecDepth 100000
variable (w0 : World) (H : AHeap) (K : Value → AHeap → Prop)
def usesN (q : Qd) : Nat := if q.op = 2 ∨ q.op = 5 ∨ q.op = 6 ∨ q.op = 9 then 2 ^ q.a.toNat else if q.op = 3 then 2 ^ q.a.toNat ||| 2 ^ q.b.toNat else 0
def regs (n : Nat) : List Int := ((List.range 12).filter (n.testBit ·)).map (fun (i : Nat) => (i : Int))
def regsTo (n k : Nat) : List Int := ((List.range k).filter (n.testBit ·)).map (fun (i : Nat) => (i : Int))
theorem shl16 {r : Int} (h : 0 ≤ r ∧ r < 12) : IntKind.u16.wrap (1 * 2 ^ (Nat.min r.toNat 16)) = ((2 ^ r.toNat : Nat) : Int) := by
  rw [IntKind.wrap_u16]
  have h1 : Nat.min r.toNat 16 = r.toNat := Nat.min_eq_left (by omega)
  rw [h1]
  have h2 : r.toNat < 12 := by omega
  generalize r.toNat = k at h2
  match k, h2 with
  | 0, _ | 1, _ | 2, _ | 3, _ | 4, _ | 5, _ | 6, _ | 7, _ | 8, _ | 9, _ | 10, _ | 11, _ => rfl
theorem pow12 {r : Int} (h : 0 ≤ r ∧ r < 12) : 2 ^ r.toNat < 4096 := by
  have h2 : r.toNat < 12 := by omega
  exact Nat.pow_lt_pow_right (by omega) (show r.toNat < 12 from h2)
theorem regs_step (n k : Nat) : regsTo n (k + 1) = if n.testBit k then regsTo n k ++ [(k : Int)] else regsTo n k := by
  simp only [regsTo, List.range_succ, List.filter_append, List.map_append]
  split <;> simp_all
theorem regsTo_le (n k : Nat) : (regsTo n k).length ≤ k := by
  simp only [regsTo, List.length_map]
  exact Nat.le_trans (List.length_filter_le _ _) (by simp)
def usesL (q : Qd) : List Int := if q.op = 2 ∨ q.op = 5 ∨ q.op = 6 ∨ q.op = 9 then [q.a] else if q.op = 3 then (if q.a = q.b then [q.a] else [if q.b < q.a then q.b else q.a, if q.b > q.a then q.b else q.a]) else []
def quadUses (q : Qd) : List Int := if quadValid q 600 then usesL q else []
theorem valid_regs {q : Qd} {m : Int} (h : quadValid q m = true) : (0 ≤ q.a ∧ q.a < 12) ∧ (0 ≤ q.b ∧ q.b < 12) := by
  simp only [quadValid, isReg, wordValid, opValid] at h
  repeat' split at h
  all_goals (try simp only [Bool.and_eq_true, decide_eq_true_eq, beq_iff_eq] at h)
  all_goals first | omega | (cases h)
theorem regs_one : ∀ a : Fin 12, regs (2 ^ a.1) = [(a.1 : Int)] := by decide +kernel
theorem regs_two : ∀ a b : Fin 12, regs (2 ^ a.1 ||| 2 ^ b.1) = if a = b then [(a.1 : Int)] else [if (b.1 : Int) < a.1 then (b.1 : Int) else a.1, if (b.1 : Int) > a.1 then (b.1 : Int) else a.1] := by decide +kernel
theorem regs_none : regs 0 = [] := by decide +kernel
theorem regs_uses {q : Qd} (ha : 0 ≤ q.a ∧ q.a < 12) (hb : 0 ≤ q.b ∧ q.b < 12) : regs (usesN q) = usesL q := by
  have h1 := regs_one ⟨q.a.toNat, by omega⟩
  have h2 := regs_two ⟨q.a.toNat, by omega⟩ ⟨q.b.toNat, by omega⟩
  simp only [Fin.mk.injEq] at h1 h2
  have ea : ((q.a.toNat : Nat) : Int) = q.a := by omega
  have eb : ((q.b.toNat : Nat) : Int) = q.b := by omega
  rw [ea] at h1
  rw [ea, eb] at h2
  simp only [usesN, usesL]
  split
  · exact h1
  · split
    · rw [h2]
      by_cases he : q.a = q.b
      · rw [if_pos he, if_pos (by rw [he])]
      · rw [if_neg he, if_neg (by omega)]
    · exact regs_none
theorem usesN_lt {q : Qd} (ha : 0 ≤ q.a ∧ q.a < 12) (hb : 0 ≤ q.b ∧ q.b < 12) : usesN q < 65536 := by
  have h1 := pow12 ha
  have h2 := pow12 hb
  have h3 : 2 ^ q.a.toNat ||| 2 ^ q.b.toNat < 2 ^ 12 := Nat.or_lt_two_pow (by omega) (by omega)
  simp only [usesN]
  split
  · omega
  · split <;> omega
end Go.Proofs.Ytfjhjfddgdokgaa
