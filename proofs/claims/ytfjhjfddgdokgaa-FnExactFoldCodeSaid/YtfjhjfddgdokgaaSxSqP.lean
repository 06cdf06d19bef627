/- Squeezing, in plain Lean: what the loops hold. -/
import Derived.Test.YtfjhjfddgdokgaaSxSq
import Derived.Test.YtfjhjfddgdokgaaSxReachC
namespace Go.Proofs.Ytfjhjfddgdokgaa
set_option linter.all false
open Go Go.RowKit
theorem keep_at {qs : List Qd} {k : Nat} {r : Bool} (hk : k < qs.length) (h : (reachL qs)[k]? = some r) : (keep qs)[k]? = some (r && !idle qs[k] k) := by
  simp [keep, hk, h, qAt_eq hk]
theorem reachL_len (qs : List Qd) : (reachL qs).length = qs.length := by simp [reachL]
def numsTo (ks : List Bool) (n k : Nat) : List Nat := (List.range n).map fun i => if i < k then place ks i else 0
theorem numsTo_len (ks : List Bool) (n k : Nat) : (numsTo ks n k).length = n := by simp [numsTo]
theorem numsTo_set {ks : List Bool} {n k : Nat} (hk : k < n) : (nats (numsTo ks n k)).set k (.int .i64 ((place ks k : Nat) : Int)) = nats (numsTo ks n (k + 1)) := by
  apply List.ext_getElem?
  intro i
  simp only [nats, numsTo, List.map_map, List.getElem?_set, List.length_map, List.length_range, List.getElem?_map]
  by_cases hi : i < n
  · rw [List.getElem?_range hi]
    by_cases hik : k = i
    · subst hik; simp [hi]
    · rw [if_neg hik]
      simp only [Option.map_some, Function.comp_def]
      congr 3
      have : (i < k) = (i < k + 1) := by simp; omega
      simp only [this]
  · rw [List.getElem?_eq_none (l := List.range n) (by simp; omega)]
    rw [if_neg (by omega)]
    rfl
theorem repl_zero (n : Nat) : repl [.int .i64 0] n = nats (List.replicate n 0) := by
  induction n with
  | zero => rfl
  | succ n ih => simp only [repl, ih, nats, List.replicate_succ, List.map_cons]; rfl
theorem numsTo_zero (ks : List Bool) (n : Nat) : numsTo ks n 0 = List.replicate n 0 := by
  simp only [numsTo, Nat.not_lt_zero, if_false]
  induction n with
  | zero => rfl
  | succ n ih => rw [List.range_succ, List.map_append, ih]; simp [List.replicate_succ']
theorem q5_oc (q : Qd) : ∀ v ∈ q.cells, v.oneCell' = true := by simp [ocI]
theorem qcells_snoc (l : List Qd) (q : Qd) : qcells (l ++ [q]) = qcells l ++ q.cells := by simp [qcells]
theorem squeeze_eq {qs : List Qd} (hv : codeValid qs = true) : squeeze qs = ((idx (keep qs) qs.length).map (qAt qs)).map (moved (keep qs)) := by simp [squeeze, hv]
theorem squeeze_le (qs : List Qd) : (squeeze qs).length ≤ 600 := by
  unfold squeeze
  split
  · rename_i h; have := (code_at h).2.1; have := idx_le (keep qs) qs.length; simp; omega
  · simp
def midway (ks : List Bool) (raw : List Qd) (k : Nat) : List Qd := (raw.take k).map (moved ks) ++ raw.drop k
theorem midway_len (ks : List Bool) (raw : List Qd) (k : Nat) : (midway ks raw k).length = raw.length := by simp [midway]; omega
theorem midway_at {ks : List Bool} {raw : List Qd} {k : Nat} (hk : k < raw.length) : (midway ks raw k)[k]? = some raw[k] := by
  rw [midway, List.getElem?_append_right (by simp; omega)]
  simp [hk]
  rw [show k + (k - min k raw.length) = k by omega]; exact List.getElem?_eq_getElem hk
theorem midway_set {ks : List Bool} {raw : List Qd} {k : Nat} (hk : k < raw.length) : (midway ks raw k).set k (moved ks raw[k]) = midway ks raw (k + 1) := by
  have e1 : ((raw.take k).map (moved ks)).length = k := by simp; omega
  rw [midway, midway, List.set_append_right _ _ (by omega), e1, Nat.sub_self, List.drop_eq_getElem_cons hk, List.set_cons_zero, List.take_add_one, List.getElem?_eq_getElem hk]
  simp only [Option.toList_some, List.map_append, List.map_cons, List.map_nil, List.append_assoc, List.singleton_append]
theorem midway_skip {ks : List Bool} {raw : List Qd} {k : Nat} (hk : k < raw.length) (h : moved ks raw[k] = raw[k]) : midway ks raw k = midway ks raw (k + 1) := by
  rw [← midway_set hk, h]
  apply List.ext_getElem?
  intro i
  rw [List.getElem?_set]
  split
  · rename_i e; subst e; rw [midway_at hk, if_pos (by rw [midway_len]; exact hk)]
  · rfl
theorem qcells_setR {l : List Qd} {k : Nat} (hk : k < l.length) (q : Qd) : setR (qcells l) (k * 5) q.cells = qcells (l.set k q) := by
  apply List.ext_getElem?
  intro j
  rw [getElem?_setR _ _ _ _ (by rw [qcells_len]; show k * 5 + 5 ≤ _; omega)]
  show (if k * 5 ≤ j ∧ j < k * 5 + 5 then _ else _) = _
  by_cases hj : j < l.length * 5
  · have hj1 : j / 5 < (l.set k q).length := by rw [List.length_set]; omega
    have e1 := qcells_at hj1 (j % 5) (by omega)
    rw [show j / 5 * 5 + j % 5 = j by omega] at e1
    rw [e1, List.getElem_set]
    by_cases hjk : k = j / 5
    · rw [if_pos (by omega), if_pos hjk]; congr 1; omega
    · rw [if_neg (by omega), if_neg hjk]
      have e2 := qcells_at (show j / 5 < l.length by omega) (j % 5) (by omega)
      rw [show j / 5 * 5 + j % 5 = j by omega] at e2
      exact e2
  · rw [if_neg (by omega), List.getElem?_eq_none (by rw [qcells_len]; omega), List.getElem?_eq_none (by rw [qcells_len, List.length_set]; omega)]
end Go.Proofs.Ytfjhjfddgdokgaa
