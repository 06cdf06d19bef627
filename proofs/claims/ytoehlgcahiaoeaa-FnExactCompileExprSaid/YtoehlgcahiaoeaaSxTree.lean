/- Expressions as trees, and how they lie in the heap: for reading (ExV), and as blocks of the call's own (Tr). -/
import Derived.Test.YtoehlgcahiaoeaaSxOwn
namespace Go.Proofs.Ytoehlgcahiaoeaa
set_option linter.all false
open Go Go.RowKit
inductive Ex where
  | mk (op n : Int) (args : List Ex)
def Ex.op : Ex → Int | .mk o _ _ => o
def Ex.n : Ex → Int | .mk _ n _ => n
def Ex.args : Ex → List Ex | .mk _ _ a => a
mutual
/-- The cells of an expression, and what its slice leads to. -/
def ExV (H : AHeap) : Ex → List Value → Prop
  | .mk op n args, cs => ∃ A c, cs = [.int .i64 op, .int .i64 n, .slice A args.length c] ∧ args.length ≤ maxLen ∧ ExR H args A 0
def ExR (H : AHeap) : List Ex → Option Addr → Nat → Prop
  | [], _, _ => True
  | e :: es, A, i => (∃ v0 v1 v2, H.cell (adr A (i * 3)) = some v0 ∧ H.cell (adr A (i * 3 + 1)) = some v1 ∧ H.cell (adr A (i * 3 + 2)) = some v2 ∧ ExV H e [v0, v1, v2]) ∧ ExR H es A (i + 1)
end
/-- How many expressions lie below. -/
def Ex.cnt : Ex → Nat
  | .mk _ _ args => cntL args
where cntL : List Ex → Nat
  | [] => 0
  | e :: es => 1 + e.cnt + cntL es
mutual
theorem ExV.le {H H' : AHeap} (hl : AHeap.le H H') : ∀ {e : Ex} {cs : List Value}, ExV H e cs → ExV H' e cs
  | .mk op n args, cs, h => by
    simp only [ExV] at h ⊢
    obtain ⟨A, c, h1, h2, h3⟩ := h
    exact ⟨A, c, h1, h2, ExR.le hl h3⟩
theorem ExR.le {H H' : AHeap} (hl : AHeap.le H H') : ∀ {es : List Ex} {A : Option Addr} {i : Nat}, ExR H es A i → ExR H' es A i
  | [], _, _, _ => by simp only [ExR]
  | e :: es, A, i, h => by
    simp only [ExR] at h ⊢
    obtain ⟨⟨v0, v1, v2, h0, h1, h2, h3⟩, h4⟩ := h
    exact ⟨⟨v0, v1, v2, hl.cell h0, hl.cell h1, hl.cell h2, ExV.le hl h3⟩, ExR.le hl h4⟩
end
theorem ExR.at_ {H : AHeap} : ∀ {es : List Ex} {A : Option Addr} {i k : Nat}, ExR H es A i → (hk : k < es.length) → ∃ v0 v1 v2, H.cell (adr A ((i + k) * 3)) = some v0 ∧ H.cell (adr A ((i + k) * 3 + 1)) = some v1 ∧ H.cell (adr A ((i + k) * 3 + 2)) = some v2 ∧ ExV H es[k] [v0, v1, v2]
  | e :: es, A, i, 0, h, _ => by simp only [ExR] at h; exact h.1
  | e :: es, A, i, k + 1, h, hk => by
    simp only [ExR] at h
    have := ExR.at_ (k := k) h.2 (by simpa using hk)
    rw [show i + 1 + k = i + (k + 1) by omega] at this
    exact this
/-- The k-th argument's cells. -/
theorem ExR.arg {H : AHeap} {es : List Ex} {A : Option Addr} {k : Nat} (h : ExR H es A 0) (hk : k < es.length) :
    A.isSome = true ∧ ∃ a c, (H.cell (adr A (k * 3)) = some (.int .i64 es[k].op) ∧ H.cell (adr A (k * 3 + 1)) = some (.int .i64 es[k].n) ∧ H.cell (adr A (k * 3 + 2)) = some (.slice a es[k].args.length c)) ∧
      ExV H es[k] [.int .i64 es[k].op, .int .i64 es[k].n, .slice a es[k].args.length c] := by
  obtain ⟨v0, v1, v2, h0, h1, h2, h3⟩ := h.at_ hk
  rw [Nat.zero_add] at h0 h1 h2
  have hA : A.isSome = true := by
    cases A with
    | none => cases h0
    | some a => rfl
  generalize es[k] = e at h3 ⊢
  cases e with
  | mk op n args =>
    have h3' := h3
    simp only [ExV] at h3
    obtain ⟨a, c, h4, _, _⟩ := h3
    simp only [List.cons.injEq, and_true] at h4
    obtain ⟨rfl, rfl, rfl⟩ := h4
    exact ⟨hA, a, c, ⟨h0, h1, h2⟩, h3'⟩
theorem ExV.open_ {H : AHeap} {e : Ex} {cs : List Value} (h : ExV H e cs) : ∃ a c, cs = [.int .i64 e.op, .int .i64 e.n, .slice a e.args.length c] ∧ e.args.length ≤ maxLen ∧ ExR H e.args a 0 := by
  cases e with
  | mk op n args => simpa only [ExV, Ex.op, Ex.n, Ex.args] using h
/-- The two arguments of an operation. -/
theorem ExR.two {H : AHeap} {x y : Ex} {A : Option Addr} (h : ExR H [x, y] A 0) : ∃ a c b d, (A.isSome = true ∧ H.cell A = some (.int .i64 x.op) ∧ H.cell (adr A 1) = some (.int .i64 x.n) ∧ H.cell (adr A 2) = some (.slice a x.args.length c) ∧
    H.cell (adr A 3) = some (.int .i64 y.op) ∧ H.cell (adr A 4) = some (.int .i64 y.n) ∧ H.cell (adr A 5) = some (.slice b y.args.length d)) ∧
    ExV H x [.int .i64 x.op, .int .i64 x.n, .slice a x.args.length c] ∧ ExV H y [.int .i64 y.op, .int .i64 y.n, .slice b y.args.length d] := by
  obtain ⟨hA, a, c, ⟨h0, h1, h2⟩, h3⟩ := h.arg (k := 0) (by simp)
  obtain ⟨_, b, d, ⟨g0, g1, g2⟩, g3⟩ := h.arg (k := 1) (by simp)
  simp only [Nat.zero_mul, Nat.zero_add, adr_zero, List.getElem_cons_zero, List.getElem_cons_succ, Nat.one_mul] at h0 h1 h2 h3 g0 g1 g2 g3
  exact ⟨a, c, b, d, ⟨hA, h0, h1, h2, g0, g1, g2⟩, h3, g3⟩
theorem two_le {H H' : AHeap} (hl : AHeap.le H H') {A : Option Addr} {x0 x1 x2 x3 x4 x5 : Value} (h : A.isSome = true ∧ H.cell A = some x0 ∧ H.cell (adr A 1) = some x1 ∧ H.cell (adr A 2) = some x2 ∧ H.cell (adr A 3) = some x3 ∧ H.cell (adr A 4) = some x4 ∧ H.cell (adr A 5) = some x5) :
    A.isSome = true ∧ H'.cell A = some x0 ∧ H'.cell (adr A 1) = some x1 ∧ H'.cell (adr A 2) = some x2 ∧ H'.cell (adr A 3) = some x3 ∧ H'.cell (adr A 4) = some x4 ∧ H'.cell (adr A 5) = some x5 :=
  ⟨h.1, hl.cell h.2.1, hl.cell h.2.2.1, hl.cell h.2.2.2.1, hl.cell h.2.2.2.2.1, hl.cell h.2.2.2.2.2.1, hl.cell h.2.2.2.2.2.2⟩
def exprOk : Nat → Ex → Bool
  | 0, _ => false
  | d + 1, .mk op n args =>
    if op = 0 then decide (0 ≤ n) && decide (n ≤ 99999) && args.isEmpty
    else if op = 13 then decide (0 ≤ n) && decide (n ≤ 3) && args.isEmpty
    else decide (1 ≤ op) && decide (op ≤ 12) && n == 0 && (match args with | [x, y] => exprOk d x && exprOk d y | _ => false)
/-- The depth, and the code, of an expression of two arguments at most. -/
def Ex.depth : Ex → Nat
  | .mk _ _ args => depthL args + 1
where depthL : List Ex → Nat
  | [] => 0
  | e :: es => max e.depth (depthL es)
end Go.Proofs.Ytoehlgcahiaoeaa
