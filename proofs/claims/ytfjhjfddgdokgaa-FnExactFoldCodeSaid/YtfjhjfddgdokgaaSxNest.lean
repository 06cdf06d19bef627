/- Marks over rows of rows, in plain Lean. -/
import Derived.Test.YtfjhjfddgdokgaaSxRs
namespace Go.Proofs.Ytfjhjfddgdokgaa
set_option linter.all false
open Go Go.RowKit
/-- How many elements there are in all. -/
def tot (sz : Nat) (L : List (List Value)) : Nat := (L.map fun x => x.length / sz).sum
theorem tot_bound {sz m : Nat} : ∀ {L : List (List Value)}, (∀ x ∈ L, x.length / sz ≤ m) → tot sz L ≤ L.length * m
  | [], _ => by simp [tot]
  | x :: L, h => by
    have h0 := h x (by simp)
    have := tot_bound (sz := sz) (m := m) (L := L) fun y hy => h y (by simp [hy])
    simp only [tot, List.map_cons, List.sum_cons, List.length_cons, Nat.add_mul] at this ⊢
    omega
/-- A fact: its kind and its number. -/
structure Fc where
  kind : Int
  n : Int
  deriving DecidableEq
abbrev Fc.cells (f : Fc) : List Value := [.int .i64 f.kind, .int .i64 f.n]
abbrev Fc.val (f : Fc) : Value := .agg #[.int .i64 f.kind, .int .i64 f.n]
def fcells (fs : List Fc) : List Value := fs.flatMap (·.cells)
theorem fcells_len (fs : List Fc) : (fcells fs).length = fs.length * 2 := by
  induction fs with
  | nil => rfl
  | cons f fs ih => simp only [fcells, List.flatMap_cons, List.length_append, List.length_cons, List.length_nil] at *; omega
theorem tot_take {sz : Nat} {L : List (List Value)} {i n : Nat} (hi : i < L.length) (hl : L[i].length = n * sz) (hs : 0 < sz := by decide) : tot sz (L.take (i + 1)) = tot sz (L.take i) + n := by
  rw [List.take_add_one, List.getElem?_eq_getElem hi]
  simp only [tot, Option.toList_some, List.map_append, List.map_cons, List.map_nil, List.sum_append, List.sum_cons, List.sum_nil, hl]
  rw [Nat.mul_div_cancel _ hs]; omega
theorem tot_take_le (sz : Nat) (L : List (List Value)) (i : Nat) : tot sz (L.take i) ≤ tot sz L := by
  have : tot sz L = tot sz (L.take i) + tot sz (L.drop i) := by
    simp only [tot]
    rw [← List.sum_append, ← List.map_append, List.take_append_drop]
  omega
/-- M is L, its rows marked one behind the other from k on. -/
def Marked (sz : Nat) (mk : Int → Nat → List Value) (k w : Int) (L M : List (List Value)) : Prop :=
  M.length = L.length ∧ ∀ i (hi : i < L.length) n, L[i].length = n * sz → M[i]? = some (mk (k + w * (tot sz (L.take i) : Int)) n)
def Midd (sz : Nat) (mk : Int → Nat → List Value) (k w : Int) (L M : List (List Value)) (j : Nat) : Prop :=
  M.length = L.length ∧ (∀ i (hi : i < L.length), i < j → ∀ n, L[i].length = n * sz → M[i]? = some (mk (k + w * (tot sz (L.take i) : Int)) n)) ∧ ∀ i, j ≤ i → M[i]? = L[i]?
section
variable {sz : Nat} {mk : Int → Nat → List Value} {k w : Int} {L M : List (List Value)} {j n : Nat}
theorem Midd.start : Midd sz mk k w L L 0 := ⟨rfl, fun i _ hi => absurd hi (Nat.not_lt_zero _), fun _ _ => rfl⟩
theorem Midd.at_ (h : Midd sz mk k w L M j) (hj : j < L.length) : M[j]'(by rw [h.1]; exact hj) = L[j] := by
  have := h.2.2 j (Nat.le_refl _)
  rw [List.getElem?_eq_getElem hj, List.getElem?_eq_getElem (by rw [h.1]; exact hj)] at this
  exact Option.some.inj this
theorem Midd.step (h : Midd sz mk k w L M j) (hj : j < L.length) (hn : L[j].length = n * sz) (hs : 0 < sz := by decide) : Midd sz mk k w L (M.set j (mk (k + w * (tot sz (L.take j) : Int)) n)) (j + 1) := by
  refine ⟨by rw [List.length_set]; exact h.1, fun i hi hij n' hn' => ?_, fun i hij => ?_⟩
  · rw [List.getElem?_set]
    by_cases e : j = i
    · subst e
      rw [if_pos rfl, if_pos (by rw [h.1]; exact hj)]
      rw [hn] at hn'
      obtain rfl := Nat.eq_of_mul_eq_mul_right hs hn'
      rfl
    · rw [if_neg e]; exact h.2.1 i hi (by omega) n' hn'
  · rw [List.getElem?_set, if_neg (by omega)]; exact h.2.2 i (by omega)
theorem Marked.at_ (h : Marked sz mk k w L M) {i : Nat} (hi : i < L.length) (hn : L[i].length = n * sz) : M[i]'(by rw [h.1]; exact hi) = mk (k + w * (tot sz (L.take i) : Int)) n := by
  have := h.2 i hi n hn
  rw [List.getElem?_eq_getElem (by rw [h.1]; exact hi)] at this
  exact Option.some.inj this
theorem Midd.done (h : Midd sz mk k w L M L.length) : Marked sz mk k w L M := ⟨h.1, fun i hi n hn => h.2.1 i hi hi n hn⟩
end
theorem Rs.lens {C : AHeap} {t' t : TypeId} {sz : Nat} {v : Value} {L : List (List Value)} {bs : List Nat} (h : Rs C t' t sz v L bs) : ∀ x ∈ L, ∃ n, x.length = n * sz := by
  intro x hx
  obtain ⟨i, hi, rfl⟩ := List.getElem_of_mem hx
  obtain ⟨vs, ob, bss, h1, h2, h3, h4, h5⟩ := h
  obtain ⟨y, ib, n, e1, e2, e3⟩ := h5 i _ (List.getElem?_eq_getElem hi)
  exact ⟨n, e3.len⟩
end Go.Proofs.Ytfjhjfddgdokgaa
