/- What the abstract heap answers behind new blocks and stores; slices that read as lists. -/
import Derived.Test.YtfjhjfddgdokgaaSxSimp
namespace Go.Proofs.Ytfjhjfddgdokgaa
set_option linter.all false
open Go Go.RowKit

theorem set_none {H : AHeap} {b i : Nat} {k : Blk} : (H.set b k) i = none ↔ i ≠ b ∧ H i = none := by
  simp only [AHeap.set]
  split <;> simp_all
theorem set_same (H : AHeap) (b : Nat) (k : Blk) : (H.set b k) b = some k := by simp [AHeap.set]
theorem set_ne {H : AHeap} {b i : Nat} {k : Blk} (h : ¬ i = b) : (H.set b k) i = H i := by simp [AHeap.set, h]
theorem set_set (H : AHeap) (b : Nat) (k k' : Blk) : (H.set b k).set b k' = H.set b k' := by
  funext i
  simp only [AHeap.set]
  split <;> rfl
theorem set_comm {H : AHeap} {b b' : Nat} {k k' : Blk} (h : ¬ b = b') : (H.set b k).set b' k' = (H.set b' k').set b k := by
  funext i
  simp only [AHeap.set]
  split <;> split <;> simp_all
theorem cell_same (H : AHeap) (b j : Nat) (k : Blk) : (H.set b k).cell (some ⟨b, j, none⟩) = k.cells[j]? := by simp [AHeap.cell, AHeap.set]
theorem cell_ne {H : AHeap} {b i j : Nat} {k : Blk} (h : ¬ i = b) : (H.set b k).cell (some ⟨i, j, none⟩) = H.cell (some ⟨i, j, none⟩) := by simp [AHeap.cell, AHeap.set, h]
theorem cell_ne' {H : AHeap} {b i j : Nat} {k : Blk} (h : ¬ b = i) : (H.set b k).cell (some ⟨i, j, none⟩) = H.cell (some ⟨i, j, none⟩) := cell_ne fun e => h e.symm
theorem set_ne' {H : AHeap} {b i : Nat} {k : Blk} (h : ¬ b = i) : (H.set b k) i = H i := set_ne fun e => h e.symm
theorem ocI (k : IntKind) (n : Int) : (Value.int k n).oneCell' = true := by exact id rfl
theorem ocB (b : Bool) : (Value.bool b).oneCell' = true := by exact id rfl
theorem ocS (a : Option Addr) (n c : Nat) : (Value.slice a n c).oneCell' = true := by exact id rfl
theorem ocP (a : Option Addr) : (Value.pointer a).oneCell' = true := by exact id rfl
theorem st_eq {n b o : Nat} {v : Value} {K : Value → AHeap → Prop} {H : AHeap} : stK n (.pointer (some ⟨b, o, none⟩)) v K H = ∃ k, H b = some k ∧ k.own = true ∧ v.cells.size = n ∧ o + n ≤ k.cells.length ∧ (∀ u ∈ v.cells.toList, u.oneCell' = true) ∧
    K undef (H.set b ⟨setR k.cells o v.cells.toList, k.own, k.ty, k.cap⟩) := by simp [stK]
theorem some_ex {α : Type} (a : α) (p : α → Prop) : (∃ k, some a = some k ∧ p k) = p a := by simp
theorem all_one {p : Value → Prop} (v : Value) : (∀ u ∈ [v], p u) = p v := by simp
theorem all_cons {p : Value → Prop} (v : Value) (l : List Value) : (∀ u ∈ v :: l, p u) = (p v ∧ ∀ u ∈ l, p u) := by simp
theorem all_nil' {p : Value → Prop} : (∀ u ∈ ([] : List Value), p u) = True := by simp
theorem cell_old {H : AHeap} {b : Nat} {k : Blk} {a : Option Addr} (hb : H b = none) (h : (H.cell a).isSome = true) : (H.set b k).cell a = H.cell a := by
  obtain ⟨v, hv⟩ := Option.isSome_iff_exists.1 h
  rw [hv]
  exact ((AHeap.le.refl H).fresh hb k).cell hv
theorem le_fresh0 {A B : AHeap} (h : AHeap.le A B) {b : Nat} (hb : A b = none) (k : Blk) : AHeap.le A (B.set b k) := fun i x hx => by
  have : i ≠ b := by rintro rfl; rw [hb] at hx; cases hx
  obtain ⟨k1, h1, r⟩ := h i x hx
  exact ⟨k1, by simp [AHeap.set, this, h1], r⟩

/-- H' knows all blocks of H just as H does. -/
def AHeap.ext (H H' : AHeap) : Prop := ∀ (b : Nat) (k : Blk), H b = some k → H' b = some k
theorem AHeap.ext.refl (H : AHeap) : AHeap.ext H H := fun _ _ h => h
theorem AHeap.ext.trans {A B C : AHeap} (h : AHeap.ext A B) (h' : AHeap.ext B C) : AHeap.ext A C := fun b k hk => h' b k (h b k hk)
theorem AHeap.ext.le {A B : AHeap} (h : AHeap.ext A B) : AHeap.le A B := fun b k hk => ⟨k, h b k hk, rfl, rfl, rfl, fun _ _ h => h⟩
theorem AHeap.ext.fresh {A B : AHeap} (h : AHeap.ext A B) {b : Nat} (hb : A b = none) (k : Blk) : AHeap.ext A (B.set b k) := fun x k' hx => by
  have : ¬ x = b := by rintro rfl; rw [hb] at hx; cases hx
  rw [set_ne this]; exact h x k' hx
theorem AHeap.ext.set {A B : AHeap} (h : AHeap.ext A B) (b : Nat) (k : Blk) : AHeap.ext (A.set b k) (B.set b k) := fun x k' hx => by
  by_cases hx' : x = b
  · subst hx'; rw [set_same] at hx ⊢; exact hx
  · rw [set_ne hx'] at hx ⊢; exact h x k' hx
theorem AHeap.ext.none {A B : AHeap} (h : AHeap.ext A B) {b : Nat} (hb : B b = none) : A b = none := h.le.none hb
theorem cell_blk {H : AHeap} {b : Nat} {k : Blk} (h : H b = some k) (j : Nat) : H.cell (some ⟨b, j, none⟩) = k.cells[j]? := by simp [AHeap.cell, h]
def rdnF (H : AHeap) (a : Option Addr) : Nat → Nat → Option (List Value)
  | _, 0 => some []
  | j, n + 1 => match H.cell (adr a j) with
    | some v => (rdnF H a (j + 1) n).map (v :: ·)
    | none => none
theorem rdn_eqF (H : AHeap) (a : Option Addr) : ∀ (n j : Nat), H.rdn (adr a j) n = rdnF H a j n
  | 0, j => rfl
  | n + 1, j => by
    simp only [AHeap.rdn, rdnF]
    cases H.cell (adr a j) with
    | none => rfl
    | some v => simp only [adr_adr, rdn_eqF H a n (j + 1)]
theorem rdn_F (H : AHeap) (a : Option Addr) (n : Nat) : H.rdn a n = rdnF H a 0 n := by
  have := rdn_eqF H a n 0
  rwa [adr_zero] at this
theorem rdnF_zero (H : AHeap) (a : Option Addr) (j : Nat) : rdnF H a j 0 = some [] := by exact id rfl
theorem rdnF_succ (H : AHeap) (a : Option Addr) (j n : Nat) : rdnF H a j (n + 1) = (H.cell (adr a j)).bind fun v => (rdnF H a (j + 1) n).map (v :: ·) := by
  simp only [rdnF]
  cases H.cell (adr a j) <;> rfl

/-! The instructions' values, as equations. -/
section
variable {ρ : Operand → Value} {H : AHeap}
theorem v_ld {x : Operand} {a : Option Addr} (h : ρ x = .pointer a) : X.val ρ H (.ld x) = H.cell a := by simp only [X.val, h]
theorem v_ldn {n : Nat} {x : Operand} {a : Option Addr} (h : ρ x = .pointer a) (ha : a.isSome = true) : X.val ρ H (.ldn n x) = (H.rdn a n).map fun cs => .agg cs.toArray := by
  cases a with
  | none => cases ha
  | some a => simp only [X.val, h]
theorem v_fld {n : Nat} {x : Operand} {a : Option Addr} (h : ρ x = .pointer a) (ha : a.isSome = true) : X.val ρ H (.fld n x) = some (.pointer (adr a n)) := by simp only [X.val, h, ha, if_true]
theorem v_idx {n : Nat} {x y : Operand} {a : Option Addr} {l c : Nat} {k : IntKind} {i : Int} (h : ρ x = .slice a l c) (h' : ρ y = .int k i) (hi : 0 ≤ i ∧ i < l) (ha : a.isSome = true) :
    X.val ρ H (.idx n x y) = some (.pointer (adr a (i.toNat * n))) := by
  simp only [X.val, h, h']
  rw [if_pos hi, if_pos ha]
end

theorem v_cells (l : List Value) : (Value.agg l.toArray).cells.toList = l := by exact id rfl
theorem v_size (l : List Value) : (Value.agg l.toArray).cells.size = l.length := by exact id rfl

theorem vcI (k : IntKind) (n : Int) : (Value.int k n).cells = #[.int k n] := by exact id rfl
theorem vcB (b : Bool) : (Value.bool b).cells = #[.bool b] := by exact id rfl
theorem vcS (a : Option Addr) (n c : Nat) : (Value.slice a n c).cells = #[.slice a n c] := by exact id rfl
theorem vcP (a : Option Addr) : (Value.pointer a).cells = #[.pointer a] := by exact id rfl
theorem vcF (f : Fn) (a b : Array Value) : (Value.func f a b).cells = #[.func f a b] := by exact id rfl
theorem vcA (cs : Array Value) : (Value.agg cs).cells = cs := by exact id rfl
theorem vcU (cs : Array Value) : (Value.tuple cs).cells = #[.tuple cs] := by exact id rfl

/-- A quad. -/
structure Qd where
  op : Int
  dst : Int
  a : Int
  b : Int
  n : Int
  deriving DecidableEq
abbrev Qd.cells (q : Qd) : List Value := [.int .i64 q.op, .int .i64 q.dst, .int .i64 q.a, .int .i64 q.b, .int .i64 q.n]
abbrev Qd.val (q : Qd) : Value := .agg #[.int .i64 q.op, .int .i64 q.dst, .int .i64 q.a, .int .i64 q.b, .int .i64 q.n]
theorem q_val (q : Qd) : q.val = .agg #[.int .i64 q.op, .int .i64 q.dst, .int .i64 q.a, .int .i64 q.b, .int .i64 q.n] := by exact id rfl
theorem q_cells (q : Qd) : q.val.cells.toList = [.int .i64 q.op, .int .i64 q.dst, .int .i64 q.a, .int .i64 q.b, .int .i64 q.n] := by exact id rfl
theorem q_size (q : Qd) : q.val.cells.size = 5 := by exact id rfl
end Go.Proofs.Ytfjhjfddgdokgaa
