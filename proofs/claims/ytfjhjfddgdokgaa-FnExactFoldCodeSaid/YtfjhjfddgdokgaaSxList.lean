/- Slices that read as lists of whole numbers, of truth values, of quads. -/
import Derived.Test.YtfjhjfddgdokgaaSxEq
namespace Go.Proofs.Ytfjhjfddgdokgaa
set_option linter.all false
open Go Go.RowKit

/-- A slice's place reads as these cells. -/
def Fl (H : AHeap) (A : Option Addr) (vs : List Value) : Prop := ∀ (j : Nat) (v : Value), vs[j]? = some v → H.cell (adr A j) = some v
section
variable {H H' : AHeap} {A : Option Addr} {vs : List Value}
theorem Fl.le (h : Fl H A vs) (hl : AHeap.le H H') : Fl H' A vs := fun i x hx => hl.cell (h i x hx)
theorem Fl.fresh (h : Fl H A vs) {b : Nat} (hb : H b = none) (k : Blk) : Fl (H.set b k) A vs := h.le ((AHeap.le.refl H).fresh hb k)
theorem Fl.is (h : Fl H A vs) {i : Nat} (hi : i < vs.length) : A.isSome = true := by
  have := h i _ (List.getElem?_eq_getElem hi)
  cases A with
  | none => cases this
  | some a => rfl
theorem Fl.nil (H : AHeap) (A : Option Addr) : Fl H A [] := fun j v h => by cases h
theorem Fl.blk (H : AHeap) (b : Nat) (k : Blk) (vs : List Value) (h : ∀ (j : Nat) (v : Value), vs[j]? = some v → k.cells[j]? = some v) : Fl (H.set b k) (some ⟨b, 0, none⟩) vs := fun j v hj => by
  rw [adr_lit, Nat.zero_add, cell_same]; exact h j v hj
theorem Own.fl {H1 : AHeap} {e : TypeId} {size : Nat} {v : Value} {n : Nat} (h : Own H1 e size v n vs H) : ∃ A c, v = .slice A n c ∧ Fl H A vs := by
  rcases h with ⟨rfl, rfl, rfl, rfl⟩ | ⟨b, cap, rfl, hb, hn, hc, hl, rfl⟩
  · exact ⟨_, _, rfl, Fl.nil _ _⟩
  · exact ⟨_, _, rfl, Fl.blk _ _ _ _ fun _ _ h => h⟩
theorem Own.le {H1 : AHeap} {e : TypeId} {size : Nat} {v : Value} {n : Nat} (h : Own H1 e size v n vs H) : AHeap.le H1 H := by
  rcases h with ⟨rfl, rfl, rfl, rfl⟩ | ⟨b, cap, rfl, hb, hn, hc, hl, rfl⟩
  · exact .refl _
  · exact (AHeap.le.refl _).fresh hb _
end

theorem up1 {k n : Nat} (h : k < n) (hn : n ≤ 4611686018427387904) : IntKind.i64.wrap ((k : Int) + 1) = ((k + 1 : Nat) : Int) := by rw [wrap_i64 (by omega) (by omega)]; omega
theorem lt_dec {k n : Nat} (h : k < n) : decide ((k : Int) < (n : Int)) = true := by simp; omega
theorem ge_dec {k n : Nat} (h : ¬ k < n) : decide ((k : Int) < (n : Int)) = false := by simp; omega
theorem rng {k n : Nat} (h : k < n) : (0 ≤ (k : Int) ∧ (k : Int) < (n : Int)) = True := by simp; omega

def ints (xs : List Int) : List Value := xs.map (Value.int .i64 ·)
def bools (xs : List Bool) : List Value := xs.map (Value.bool ·)
def qcells (qs : List Qd) : List Value := qs.flatMap (·.cells)
theorem ints_len (xs : List Int) : (ints xs).length = xs.length := by simp [ints]
theorem bools_len (xs : List Bool) : (bools xs).length = xs.length := by simp [bools]
theorem qcells_len (qs : List Qd) : (qcells qs).length = qs.length * 5 := by
  induction qs with
  | nil => rfl
  | cons q qs ih => simp only [qcells, List.flatMap_cons, List.length_append, List.length_cons, List.length_nil] at *; omega
theorem ints_at {xs : List Int} {i : Nat} (h : i < xs.length) : (ints xs)[i]? = some (.int .i64 xs[i]) := by simp [ints, h]
theorem bools_at {xs : List Bool} {i : Nat} (h : i < xs.length) : (bools xs)[i]? = some (.bool xs[i]) := by simp [bools, h]
theorem qcells_at {qs : List Qd} : ∀ {k : Nat} (h : k < qs.length) (j : Nat), j < 5 → (qcells qs)[k * 5 + j]? = qs[k].cells[j]? := by
  induction qs with
  | nil => intro k h; cases h
  | cons q qs ih =>
    intro k h j hj
    have e : qcells (q :: qs) = q.cells ++ qcells qs := rfl
    rw [e, List.getElem?_append]
    have hl : q.cells.length = 5 := rfl
    cases k with
    | zero => simp only [Nat.zero_mul, Nat.zero_add, hl, hj, if_true]; rfl
    | succ k =>
      have hk : k < qs.length := by simpa using h
      rw [if_neg (by rw [hl]; omega), hl, show (k + 1) * 5 + j - 5 = k * 5 + j by omega, ih hk j hj]
      rfl
section
variable {H : AHeap} {A : Option Addr}
theorem Fl.int {xs : List Int} (h : Fl H A (ints xs)) {i : Nat} (hi : i < xs.length) : H.cell (adr A i) = some (.int .i64 xs[i]) := h _ _ (ints_at hi)
theorem Fl.bool {xs : List Bool} (h : Fl H A (bools xs)) {i : Nat} (hi : i < xs.length) : H.cell (adr A i) = some (.bool xs[i]) := h _ _ (bools_at hi)
theorem Fl.ints_is {xs : List Int} (h : Fl H A (ints xs)) {i : Nat} (hi : i < xs.length) : A.isSome = true := h.is (by rw [ints_len]; exact hi)
theorem Fl.bools_is {xs : List Bool} (h : Fl H A (bools xs)) {i : Nat} (hi : i < xs.length) : A.isSome = true := h.is (by rw [bools_len]; exact hi)
theorem Fl.qd_is {qs : List Qd} (h : Fl H A (qcells qs)) {i : Nat} (hi : i < qs.length) : A.isSome = true := h.is (i := i * 5) (by rw [qcells_len]; omega)
theorem Fl.q0 {qs : List Qd} (h : Fl H A (qcells qs)) {i : Nat} (hi : i < qs.length) : H.cell (adr A (i * 5)) = some (.int .i64 qs[i].op) := h _ _ (by rw [← Nat.add_zero (i * 5), qcells_at hi 0 (by omega)]; rfl)
theorem Fl.q1 {qs : List Qd} (h : Fl H A (qcells qs)) {i : Nat} (hi : i < qs.length) : H.cell (adr A (i * 5 + 1)) = some (.int .i64 qs[i].dst) := h _ _ (by rw [qcells_at hi 1 (by omega)]; rfl)
theorem Fl.q2 {qs : List Qd} (h : Fl H A (qcells qs)) {i : Nat} (hi : i < qs.length) : H.cell (adr A (i * 5 + 2)) = some (.int .i64 qs[i].a) := h _ _ (by rw [qcells_at hi 2 (by omega)]; rfl)
theorem Fl.q3 {qs : List Qd} (h : Fl H A (qcells qs)) {i : Nat} (hi : i < qs.length) : H.cell (adr A (i * 5 + 3)) = some (.int .i64 qs[i].b) := h _ _ (by rw [qcells_at hi 3 (by omega)]; rfl)
theorem Fl.q4 {qs : List Qd} (h : Fl H A (qcells qs)) {i : Nat} (hi : i < qs.length) : H.cell (adr A (i * 5 + 4)) = some (.int .i64 qs[i].n) := h _ _ (by rw [qcells_at hi 4 (by omega)]; rfl)
end
theorem Fl.quad {H : AHeap} {A : Option Addr} {qs : List Qd} (h : Fl H A (qcells qs)) {i : Nat} (hi : i < qs.length) : A.isSome = true ∧ H.cell (adr A (i * 5)) = some (.int .i64 qs[i].op) ∧
    H.cell (adr A (i * 5 + 1)) = some (.int .i64 qs[i].dst) ∧ H.cell (adr A (i * 5 + 2)) = some (.int .i64 qs[i].a) ∧ H.cell (adr A (i * 5 + 3)) = some (.int .i64 qs[i].b) ∧ H.cell (adr A (i * 5 + 4)) = some (.int .i64 qs[i].n) :=
  ⟨h.qd_is hi, h.q0 hi, h.q1 hi, h.q2 hi, h.q3 hi, h.q4 hi⟩
/-- The marks from k on. -/
def marks (k : Int) : Nat → List Int
  | 0 => []
  | n + 1 => k :: marks (k + 1) n
theorem marks_len (k : Int) (n : Nat) : (marks k n).length = n := by
  induction n generalizing k with
  | zero => rfl
  | succ n ih => simp [marks, ih]
theorem marks_at (k : Int) (n i : Nat) (h : i < n) : (marks k n)[i]? = some (k + i) := by
  induction n generalizing k i with
  | zero => cases h
  | succ n ih =>
    cases i with
    | zero => simp [marks]
    | succ i => simp only [marks, List.getElem?_cons_succ]; rw [ih _ _ (by omega)]; congr 1; omega
end Go.Proofs.Ytfjhjfddgdokgaa
