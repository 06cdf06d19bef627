/- The abstract walk: what must be shown so that a code, run in any world that the abstract heap describes, ends as a post says. -/
import Derived.Test.YtfjhjfddgdokgaaSxSound
namespace Go.Proofs.Ytfjhjfddgdokgaa
set_option linter.all false
open Go Go.RowKit
set_option linter.unusedSimpArgs false

/-- v is a slice of n elements of the call's own: H is H1 and the row of v, which holds xs. -/
def Own (H1 : AHeap) (e : TypeId) (size : Nat) (v : Value) (n : Nat) (xs : List Value) (H : AHeap) : Prop :=
  (v = .slice none 0 0 ∧ n = 0 ∧ xs = [] ∧ H = H1) ∨
  ∃ b cap, v = .slice (some ⟨b, 0, none⟩) n cap ∧ H1 b = none ∧ n ≤ cap ∧ cap ≤ maxLen ∧ xs.length = n * size ∧ H = H1.set b ⟨xs, true, e, cap * size⟩
/-- v is a slice of n elements of the call's own, xs, and what else H knows is H1. -/
def Has (H : AHeap) (e : TypeId) (size : Nat) (v : Value) (n : Nat) (xs : List Value) (H1 : AHeap) : Prop :=
  (v = .slice none 0 0 ∧ n = 0 ∧ xs = [] ∧ H1 = H) ∨
  ∃ b cap k, v = .slice (some ⟨b, 0, none⟩) n cap ∧ H b = some k ∧ k.own = true ∧ k.ty = e ∧ k.cap = cap * size ∧ n ≤ cap ∧ cap ≤ maxLen ∧ n * size ≤ k.cells.length ∧ xs = k.cells.take (n * size) ∧ H1 = H.del b

/-- A call, in any world that H describes. -/
def ACalls (P : Program) (w0 : World) (f : Nat) (args : List Value) (H : AHeap) (K : Value → AHeap → Prop) : Prop :=
  (∃ fn, P.funcs[f]? = some fn ∧ fn.body.isSome = true ∧ (fn.name == "runtime.NumGoroutine") = false) ∧
  ∀ w, Sat w0 H w → Calls P f args.toArray w fun e w' => ∃ v H', e = .returned v ∧ Sat w0 H' w' ∧ K v H'

def EqRun (P : Program) (t : TypeId) (u v : Value) (r : Bool) : Prop :=
  (∃ xs, u = .agg xs) ∧ (∃ ys, v = .agg ys) ∧ P.eqGuardType P.depth t = false ∧ ∀ w, (Op.equal t u v).run P w = .ok r w

def needs {α : Type} (o : Option α) (K : α → Prop) : Prop := match o with
  | some v => K v
  | none => False
theorem needs_some {α : Type} (v : α) (K : α → Prop) : needs (some v) K = K v := rfl
theorem needs_none {α : Type} (K : α → Prop) : needs none K = False := rfl
theorem needs_ite {α : Type} (c : Prop) [Decidable c] (v w : Option α) (K : α → Prop) (h : c) : needs (if c then v else w) K = needs v K := by rw [if_pos h]
theorem needs_map {α β : Type} (o : Option α) (f : α → β) (K : β → Prop) : needs (o.map f) K = needs o fun a => K (f a) := by cases o <;> rfl
theorem needs_elim {α : Type} {o : Option α} {K : α → Prop} (h : needs o K) : ∃ v, o = some v ∧ K v := by
  cases o with
  | none => exact h.elim
  | some v => exact ⟨v, rfl, h⟩

def sxVal (P : Program) (x : X) (ρ : Operand → Value) (H : AHeap) (K : Value → Prop) : Prop := match x with
  | .eqs ng t a b => ∃ r : Bool, EqRun P t (ρ a) (ρ b) r ∧ K (.bool (ng != r))
  | x => needs (x.val ρ H) K

def repl (z : List Value) : Nat → List Value
  | 0 => []
  | n + 1 => z ++ repl z n

def sxEff (P : Program) (w0 : World) (x : X) (ρ : Operand → Value) (H : AHeap) (K : Value → AHeap → Prop) : Prop := match x with
  | .new z t => ∀ b, H b = none → K (.pointer (some ⟨b, 0, none⟩)) (H.set b ⟨z, true, t, z.length⟩)
  | .box t x => ∀ b, H b = none → K (.pointer (some ⟨b, 0, none⟩)) (H.set b ⟨(ρ x).cells.toList, true, t, (ρ x).cells.size⟩)
  | .lit z t ln ps => needs (fillL z (ps.map fun p => (p.1, p.2.1, ρ p.2.2))) fun cs => ∀ b, H b = none → K (.slice (some ⟨b, 0, none⟩) ln ln) (H.set b ⟨cs, true, t, cs.length⟩)
  | .mks z t bytes l c => match ρ l, ρ c with
    | .int _ l, .int _ c => 0 ≤ l ∧ l ≤ c ∧ (bytes : Int) * c ≤ 281474976710656 ∧ c ≤ 9223372036854775807 ∧ ∀ b, H b = none → K (.slice (some ⟨b, 0, none⟩) l.toNat c.toNat) (H.set b ⟨repl z c.toNat, true, t, c.toNat * z.length⟩)
    | _, _ => False
  | .st n a x => match ρ a with
    | .pointer (some a) => a.spot = none ∧ ∃ k, H a.block = some k ∧ k.own = true ∧ (ρ x).cells.size = n ∧ a.off + n ≤ k.cells.length ∧ (∀ v ∈ (ρ x).cells.toList, v.oneCell' = true) ∧
        K undef (H.set a.block { k with cells := setR k.cells a.off (ρ x).cells.toList })
    | _ => False
  | .app z t bytes s x => match ρ s, ρ x with
    | .slice sa n sc, .slice xa m xc => (n = 0 ∧ sc = 0 ∧ m = 0 ∧ K (.slice sa 0 0) H) ∨ ∃ xs H1 news, (Has H t z.length (.slice sa n sc) n xs H1 ∨ (n = 0 ∧ sc = 0 ∧ xs = [] ∧ H1 = H ∧ 0 < m)) ∧ news.length = m * z.length ∧
        (∀ (j : Nat) (v : Value), news[j]? = some v → H.cell (adr xa j) = some v) ∧ (∀ v ∈ news, v.oneCell' = true) ∧ n + m ≤ maxLen ∧ (n + m) * bytes ≤ 140737488355328 ∧
        ∀ v' H', Own H1 t z.length v' (n + m) (xs ++ news) H' → K v' H'
    | _, _ => False
  | .call f args => match ρ f with
    | .func (.func f) fi ca => ACalls P w0 f (fi.toList ++ args.map ρ ++ ca.toList) H K
    | _ => False
  | x => sxVal P x ρ H fun v => K v H

structure XO where
  dst : Option Nat
  x : X
  guard : Option (Nat × Bool)

def dstOk (N : Nat) : Option Nat → Bool
  | some d => decide (d < N)
  | none => true
def XO.of (P : Program) (N : Nat) (ops : Array Oper) (o : Oper) : Option XO :=
  match X.of P o.op with
  | none => none
  | some x => if dstOk N o.dst then
      match o.guard with
      | none => some ⟨o.dst, x, none⟩
      | some (j, b) => match (ops[j]?).bind (·.dst) with
        | some t => if t < N then some ⟨o.dst, x, some (t, b)⟩ else none
        | none => none
    else none

def putD (fr : Fr) : Option Nat → Value → Fr
  | some d, v => fr.put d v
  | none, _ => fr

/-- An instruction, its guard asked first. -/
def sxOp (P : Program) (w0 : World) (o : XO) (K : Fr → AHeap → Prop) (fr : Fr) (H : AHeap) : Prop := match o.guard with
  | none => sxEff P w0 o.x fr.ev H fun v H' => K (putD fr o.dst v) H'
  | some (t, b) => match fr t with
    | .bool c => (c = b → sxEff P w0 o.x fr.ev H fun v H' => K (putD fr o.dst v) H') ∧ (c ≠ b → K (putD fr o.dst undef) H)
    | _ => K (putD fr o.dst undef) H

def sxOps (P : Program) (w0 : World) : List XO → (Fr → AHeap → Prop) → Fr → AHeap → Prop
  | [], K, fr, H => K fr H
  | o :: r, K, fr, H => sxOp P w0 o (sxOps P w0 r K) fr H

section
variable {P : Program} {w0 : World} {N : Nat}

theorem Own.has {H1 H : AHeap} {e : TypeId} {size : Nat} {v : Value} {n : Nat} {xs : List Value} (h : Own H1 e size v n xs H) : Has H e size v n xs H1 := by
  rcases h with ⟨rfl, rfl, rfl, rfl⟩ | ⟨b, cap, rfl, hb, hn, hc, hl, rfl⟩
  · exact .inl ⟨rfl, rfl, rfl, rfl⟩
  · refine .inr ⟨b, cap, ⟨xs, true, e, cap * size⟩, rfl, by simp [AHeap.set], rfl, rfl, rfl, hn, hc, by simp [hl], by rw [← hl]; simp, ?_⟩
    funext i
    by_cases hi : i = b
    · subst hi; simp [AHeap.del, hb]
    · simp [AHeap.del, AHeap.set, hi]

theorem getElem?_repl (z : List Value) (hz : 0 < z.length) : ∀ (n j : Nat), j < n * z.length → (repl z n)[j]? = z[j % z.length]?
  | 0, j, h => by simp at h
  | n + 1, j, h => by
    simp only [repl, List.getElem?_append]
    split
    · rename_i hj; rw [Nat.mod_eq_of_lt hj]
    · rename_i hj
      have hj' : z.length ≤ j := by omega
      rw [getElem?_repl z hz n (j - z.length) (by rw [Nat.add_mul] at h; omega)]
      congr 1
      exact (Nat.mod_eq_sub_mod hj').symm
theorem length_repl (z : List Value) : ∀ n, (repl z n).length = n * z.length
  | 0 => by simp [repl]
  | n + 1 => by simp [repl, length_repl z n, Nat.add_mul, Nat.add_comm]
theorem made_repl (z : Array Value) (n : Nat) : madeCells z (n * z.size) = (repl z.toList n).toArray := by
  apply Array.ext_getElem?
  intro j
  by_cases hj : j < n * z.size
  · have hz : 0 < z.size := by
      rcases Nat.eq_zero_or_pos z.size with h | h
      · rw [h] at hj; simp at hj
      · exact h
    have hm : j % z.size < z.size := Nat.mod_lt _ hz
    have h1 := getElem?_repl z.toList (by simpa using hz) n j (by simpa using hj)
    simp only [Array.getElem?_toList, Array.length_toList] at h1
    have h2 : (repl z.toList n).toArray[j]? = (repl z.toList n)[j]? := by simp
    rw [h2, h1]
    simp [madeCells, Array.getElem?_map, Array.getElem?_range, hj, hm]
  · have h2 : (repl z.toList n).toArray[j]? = (repl z.toList n)[j]? := by simp
    rw [Array.getElem?_eq_none (by simp [madeCells]; omega), h2, List.getElem?_eq_none (by rw [length_repl]; simpa using hj)]
end
end Go.Proofs.Ytfjhjfddgdokgaa
