/- Squeezing, in plain Lean. -/
import Derived.Test.YtfjhjfddgdokgaaSxReach
namespace Go.Proofs.Ytfjhjfddgdokgaa
set_option linter.all false
open Go Go.RowKit
def idle (q : Qd) (i : Int) : Bool := if q.op = 4 ∨ q.op = 5 then q.n == i + 1 else if q.op = 2 then q.dst == q.a else false
def qd0 : Qd := ⟨0, 0, 0, 0, 0⟩
def qAt (qs : List Qd) (i : Nat) : Qd := (qs[i]?).getD qd0
theorem qAt_eq {qs : List Qd} {i : Nat} (h : i < qs.length) : qAt qs i = qs[i] := by simp [qAt, h]
def idx (ks : List Bool) (k : Nat) : List Nat := (List.range k).filter fun i => (ks[i]?).getD false
theorem idx_step (ks : List Bool) {k : Nat} {b : Bool} (h : ks[k]? = some b) : idx ks (k + 1) = if b then idx ks k ++ [k] else idx ks k := by
  simp only [idx, List.range_succ, List.filter_append]
  cases b <;> simp [h]
theorem idx_le (ks : List Bool) (k : Nat) : (idx ks k).length ≤ k := Nat.le_trans (List.length_filter_le _ _) (by simp)
theorem idx_mem {ks : List Bool} {k i : Nat} (h : i ∈ idx ks k) : i < k ∧ ks[i]? = some true := by
  simp only [idx, List.mem_filter, List.mem_range] at h
  refine ⟨h.1, ?_⟩
  cases hk : ks[i]? with
  | none => rw [hk] at h; simp at h
  | some b => rw [hk] at h; simpa using h.2
theorem idx_congr {ks ks' : List Bool} {k : Nat} (h : ∀ i, i < k → ks[i]? = ks'[i]?) : idx ks k = idx ks' k := by
  simp only [idx]
  apply List.filter_congr
  intro i hi
  rw [h i (List.mem_range.1 hi)]
def place (ks : List Bool) (k : Nat) : Nat := (idx ks k).length
noncomputable def keep (qs : List Qd) : List Bool := (List.range qs.length).map fun i => ((reachL qs)[i]?).getD false && !idle (qAt qs i) i
def moved (ks : List Bool) (q : Qd) : Qd := if q.op = 4 ∨ q.op = 5 then ⟨q.op, q.dst, q.a, q.b, (place ks q.n.toNat : Int)⟩ else q
noncomputable def squeeze (qs : List Qd) : List Qd := if codeValid qs then (idx (keep qs) qs.length).map fun i => moved (keep qs) (qAt qs i) else []
end Go.Proofs.Ytfjhjfddgdokgaa
