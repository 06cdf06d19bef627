/- The abstract heap, the abstract frame and the small instructions into which the operations of a Go function are read: what each yields. -/
import Derived.Calls
import Derived.OrdersHeld
import Derived.Below
import Derived.Laws.Entries
import Derived.Laws.Cells
import Derived.Laws.AppendOwn
import Derived.Laws.MakeOwn
import Derived.Laws.CopyRow
import Derived.Eval
namespace Go.Proofs.Ytfjhjfddgdokgaa
set_option linter.all false
open Go Go.RowKit

/-- What is known of a block: its first cells; whether the call owns it (it may be written); its element type; how many cells it has. -/
structure Blk where
  cells : List Value
  own : Bool
  ty : TypeId
  cap : Nat

abbrev AHeap := Nat → Option Blk

def AHeap.cell (H : AHeap) : Option Addr → Option Value
  | some a => if a.spot.isSome then none else (H a.block).bind fun k => k.cells[a.off]?
  | none => none
def AHeap.set (H : AHeap) (b : Nat) (k : Blk) : AHeap := fun i => if i = b then some k else H i
def AHeap.del (H : AHeap) (b : Nat) : AHeap := fun i => if i = b then none else H i
/-- H' knows all that H knows. -/
def AHeap.le (H H' : AHeap) : Prop := ∀ (b : Nat) (k : Blk), H b = some k → ∃ k' : Blk, H' b = some k' ∧ k'.own = k.own ∧ k'.ty = k.ty ∧ k'.cap = k.cap ∧ ∀ (j : Nat) (v : Value), k.cells[j]? = some v → k'.cells[j]? = some v

theorem AHeap.le.refl (H : AHeap) : AHeap.le H H := fun _ k h => ⟨k, h, rfl, rfl, rfl, fun _ _ h => h⟩
theorem AHeap.le.trans {A B C : AHeap} (h : AHeap.le A B) (h' : AHeap.le B C) : AHeap.le A C := fun b k hk => by
  obtain ⟨k1, h1, o1, t1, c1, r1⟩ := h b k hk
  obtain ⟨k2, h2, o2, t2, c2, r2⟩ := h' b k1 h1
  exact ⟨k2, h2, o2.trans o1, t2.trans t1, c2.trans c1, fun j v hv => r2 j v (r1 j v hv)⟩
theorem AHeap.le.fresh {A B : AHeap} (h : AHeap.le A B) {b : Nat} (hb : B b = none) (k : Blk) : AHeap.le A (B.set b k) := fun i x hx => by
  obtain ⟨k1, h1, r⟩ := h i x hx
  have : i ≠ b := by rintro rfl; rw [hb] at h1; cases h1
  exact ⟨k1, by simp [AHeap.set, this, h1], r⟩
theorem AHeap.le.set {A B : AHeap} (h : AHeap.le A B) (b : Nat) (k : Blk) : AHeap.le (A.set b k) (B.set b k) := fun i x hx => by
  by_cases hi : i = b
  · subst hi
    simp only [AHeap.set, if_true] at hx ⊢
    obtain rfl := Option.some.inj hx
    exact ⟨k, rfl, rfl, rfl, rfl, fun _ _ h => h⟩
  · simp only [AHeap.set, hi, if_false] at hx ⊢
    exact h i x hx
theorem AHeap.le.del {A B : AHeap} (h : AHeap.le A B) {b : Nat} (hb : A b = none) : AHeap.le A (B.del b) := fun i x hx => by
  have : i ≠ b := by rintro rfl; rw [hb] at hx; cases hx
  obtain ⟨k1, h1, r⟩ := h i x hx
  exact ⟨k1, by simp [AHeap.del, this, h1], r⟩
theorem AHeap.del_le (H : AHeap) (b : Nat) : AHeap.le (H.del b) H := fun i x hx => by
  simp only [AHeap.del] at hx
  split at hx
  · cases hx
  · exact ⟨x, hx, rfl, rfl, rfl, fun _ _ h => h⟩
theorem AHeap.le.none {A B : AHeap} (h : AHeap.le A B) {b : Nat} (hb : B b = none) : A b = none := by
  cases hA : A b with
  | none => rfl
  | some k => obtain ⟨k', hk, _⟩ := h b k hA; rw [hb] at hk; cases hk
theorem AHeap.le.cell {A B : AHeap} (h : AHeap.le A B) {a : Option Addr} {v : Value} (ha : A.cell a = some v) : B.cell a = some v := by
  cases a with
  | none => cases ha
  | some a =>
    simp only [AHeap.cell] at ha ⊢
    split at ha
    · cases ha
    · rename_i hs
      rw [if_neg hs]
      cases hk : A a.block with
      | none => rw [hk] at ha; cases ha
      | some k =>
        rw [hk] at ha
        obtain ⟨k', hk', _, _, _, r⟩ := h _ _ hk
        rw [hk']
        exact r _ _ ha

/-- The world is as the abstract heap says; what stood when the law's call began is as it was. -/
structure Sat (w0 : World) (H : AHeap) (w : World) : Prop where
  below : Below w0.heap.size w0 w
  blk : ∀ (b : Nat) (k : Blk), H b = some k → ∃ (c : Array Value) (fz : Nat × Nat), w.heap[b]? = some (.cells c k.ty fz) ∧ c.size = k.cap ∧ (∀ (j : Nat) (v : Value), k.cells[j]? = some v → c[j]? = some v) ∧ (k.own = true → w0.heap.size ≤ b ∧ fz = (0, 0))

theorem Sat.mono {w0 w : World} {A B : AHeap} (h : Sat w0 B w) (hl : AHeap.le A B) : Sat w0 A w := ⟨h.below, fun b k hk => by
  obtain ⟨k', hk', ho, ht, hc, hr⟩ := hl b k hk
  obtain ⟨c, fz, h1, h2, h3, h4⟩ := h.blk b k' hk'
  exact ⟨c, fz, by rw [← ht]; exact h1, by rw [← hc]; exact h2, fun j v hv => h3 j v (hr j v hv), fun hown => h4 (by rw [ho]; exact hown)⟩⟩
theorem Sat.lt {w0 w : World} {H : AHeap} (h : Sat w0 H w) {b : Nat} {k : Blk} (hk : H b = some k) : b < w.heap.size := by
  obtain ⟨c, fz, h1, _⟩ := h.blk b k hk
  rcases Nat.lt_or_ge b w.heap.size with hlt | hge
  · exact hlt
  · rw [Array.getElem?_eq_none hge] at h1; cases h1
theorem Sat.fresh {w0 w : World} {H : AHeap} (h : Sat w0 H w) : H w.heap.size = none := by
  cases hk : H w.heap.size with
  | none => rfl
  | some k => exact absurd (h.lt hk) (Nat.lt_irrefl _)
theorem Sat.cell {w0 w : World} {H : AHeap} (h : Sat w0 H w) {a : Addr} {v : Value} (hc : H.cell (some a) = some v) : w.cell? a = some v := by
  simp only [AHeap.cell] at hc
  split at hc
  · cases hc
  · rename_i hs
    cases hk : H a.block with
    | none => rw [hk] at hc; cases hc
    | some k =>
      rw [hk] at hc
      obtain ⟨c, fz, h1, _, h3, _⟩ := h.blk _ _ hk
      simp only [World.cell?, h1, hs]
      exact h3 _ _ hc
theorem Sat.drew {w0 w : World} {H : AHeap} (h : Sat w0 H w) : Sat w0 H w.drew := ⟨h.below.drew, h.blk⟩
theorem Sat.alloc {w0 w : World} {H : AHeap} (h : Sat w0 H w) (cs : Array Value) (cells : List Value) (t : TypeId) (hc : ∀ (j : Nat) (v : Value), cells[j]? = some v → cs[j]? = some v) :
    Sat w0 (H.set w.heap.size ⟨cells, true, t, cs.size⟩) (w.alloc (.cells cs t)) := by
  refine ⟨h.below.alloc h.below.size _, fun b k hk => ?_⟩
  simp only [AHeap.set] at hk
  split at hk
  · rename_i hb
    obtain rfl := Option.some.inj hk
    subst hb
    exact ⟨cs, (0, 0), heap_alloc_new w _, rfl, hc, fun _ => ⟨h.below.size, rfl⟩⟩
  · have hlt := h.lt hk
    obtain ⟨c, fz, h1, r⟩ := h.blk b k hk
    exact ⟨c, fz, (Below.heap_alloc w _ b hlt).trans h1, r⟩
theorem Sat.setCell {w0 w : World} {H : AHeap} (h : Sat w0 H w) {b off : Nat} {k : Blk} (hk : H b = some k) (ho : k.own = true) (v : Value) :
    Sat w0 (H.set b { k with cells := k.cells.set off v }) (w.setCell ⟨b, off, none⟩ v) := by
  obtain ⟨c, fz, h1, h2, h3, h4⟩ := h.blk b k hk
  obtain ⟨hb, hfz⟩ := h4 ho
  refine ⟨h.below.setCell hb v, fun i x hx => ?_⟩
  simp only [AHeap.set] at hx
  split at hx
  · rename_i hi
    obtain rfl := Option.some.inj hx
    subst hi
    refine ⟨c.setIfInBounds off v, fz, by simp [World.setCell, Array.getElem?_modify, h1], by simpa using h2, fun j u hu => ?_, h4⟩
    simp only [List.getElem?_set] at hu
    split at hu
    · rename_i hj
      subst hj
      split at hu
      · rename_i hlt
        obtain rfl := Option.some.inj hu
        have := h3 off _ (List.getElem?_eq_getElem hlt)
        have hl : off < c.size := (Array.getElem?_eq_some_iff.1 this).1
        simp [hl]
      · cases hu
    · rename_i hj
      rw [Array.getElem?_setIfInBounds_ne hj]
      exact h3 j u hu
  · rename_i hi
    obtain ⟨c', fz', g1, r⟩ := h.blk i x hx
    exact ⟨c', fz', (Below.heap_setCell w _ v i hi).trans g1, r⟩

/-! ### Frames -/
abbrev Fr := Nat → Value
def Fr.put (fr : Fr) (d : Nat) (v : Value) : Fr := fun t => if t = d then v else fr t
def Fr.ev (fr : Fr) : Operand → Value
  | .tmp t => fr t
  | .const v => v
  | .global g => .pointer (some ⟨g, 0, none⟩)
  | .func f => .func (.func f) #[] #[]
structure Sim (N : Nat) (fr : Fr) (a : Act) : Prop where
  size : a.tmps.size = N
  defers : a.defers = []
  at_ : ∀ t, a.tmps.getD t undef = fr t
theorem Sim.ev {N : Nat} {fr : Fr} {a : Act} (h : Sim N fr a) : a.eval = fr.ev := by
  funext x
  cases x with
  | tmp t => exact h.at_ t
  | _ => rfl
theorem Sim.put {N : Nat} {fr : Fr} {a : Act} (h : Sim N fr a) {d : Nat} (hd : d < N) (v : Value) : Sim N (fr.put d v) (a.put (some d) v) := by
  refine ⟨by simp [Act.put, h.size], h.defers, fun t => ?_⟩
  simp only [Act.put, Fr.put]
  have hs : d < a.tmps.size := by rw [h.size]; exact hd
  by_cases ht : t = d
  · subst ht; simp [hs]
  · rw [if_neg ht, ← h.at_ t]
    simp [Array.getElem?_setIfInBounds_ne (fun e => ht e.symm)]

end Go.Proofs.Ytfjhjfddgdokgaa
