/- Expressions that lie in blocks of the call's own: the contracts of toExpr and markExpr. -/
import Derived.Test.YtoehlgcahiaoeaaSxSz
namespace Go.Proofs.Ytoehlgcahiaoeaa
set_option linter.all false
open Go Go.RowKit
set_option maxRecDepth 100000
def at3 (cells : List Value) (i : Nat) : List Value := [cells.getD (i * 3) undef, cells.getD (i * 3 + 1) undef, cells.getD (i * 3 + 2) undef]
/-- An expression in blocks of the call's own, all of them in B. -/
inductive Tr (H : AHeap) : Ex → List Value → (Nat → Prop) → Prop
  | mk (op n : Int) (args : List Ex) (b : Nat) (k : Blk) (B : Nat → Prop) (Bs : Nat → Nat → Prop) (hk : H b = some k) (ho : k.own = true) (hl : args.length * 3 ≤ k.cells.length) (hm : args.length ≤ maxLen) (hb : B b)
      (hB : ∀ i, i < args.length → ∀ x, Bs i x → B x ∧ x ≠ b) (hd : ∀ i j, i < j → j < args.length → ∀ x, Bs i x → ¬ Bs j x)
      (ha : ∀ i (hi : i < args.length), Tr H args[i] (at3 k.cells i) (Bs i)) :
      Tr H (.mk op n args) [.int .i64 op, .int .i64 n, .slice (some ⟨b, 0, none⟩) args.length args.length] B
theorem getD_le {l l' : List Value} (h : ∀ (j : Nat) (v : Value), l[j]? = some v → l'[j]? = some v) {j : Nat} (hj : j < l.length) : l'.getD j undef = l.getD j undef := by
  have h1 := h j _ (List.getElem?_eq_getElem hj)
  simp [List.getD, h1, List.getElem?_eq_getElem hj]
theorem at3_le {l l' : List Value} (h : ∀ (j : Nat) (v : Value), l[j]? = some v → l'[j]? = some v) {i n : Nat} (hi : i < n) (hl : n * 3 ≤ l.length) : at3 l' i = at3 l i := by
  simp only [at3, getD_le h (show i * 3 < l.length by omega), getD_le h (show i * 3 + 1 < l.length by omega), getD_le h (show i * 3 + 2 < l.length by omega)]
theorem len_le {l l' : List Value} (h : ∀ (j : Nat) (v : Value), l[j]? = some v → l'[j]? = some v) : l.length ≤ l'.length := by
  rcases Nat.eq_zero_or_pos l.length with h0 | h0
  · omega
  · have := h (l.length - 1) _ (List.getElem?_eq_getElem (by omega))
    have := (List.getElem?_eq_some_iff.1 this).1
    omega
theorem Tr.le {H H' : AHeap} (hle : AHeap.le H H') {e : Ex} {cs : List Value} {B : Nat → Prop} (h : Tr H e cs B) : Tr H' e cs B := by
  induction h with
  | mk op n args b k B Bs hk ho hl hm hb hB hd ha ih =>
    obtain ⟨k', hk', ho', _, _, hr⟩ := hle b k hk
    exact .mk op n args b k' B Bs hk' (by rw [ho']; exact ho) (Nat.le_trans hl (len_le hr)) hm hb hB hd fun i hi => by
      rw [at3_le hr hi hl]; exact ih i hi
theorem Tr.frame {H H' : AHeap} {e : Ex} {cs : List Value} {B : Nat → Prop} (h : Tr H e cs B) (hf : ∀ x, B x → H' x = H x) : Tr H' e cs B := by
  induction h with
  | mk op n args b k B Bs hk ho hl hm hb hB hd ha ih =>
    exact .mk op n args b k B Bs (by rw [hf b hb]; exact hk) ho hl hm hb hB hd fun i hi => ih i hi fun x hx => hf x (hB i hi x hx).1
theorem Tr.weaken {H : AHeap} {e : Ex} {cs : List Value} {B B' : Nat → Prop} (h : Tr H e cs B) (hB : ∀ x, B x → B' x) : Tr H e cs B' := by
  cases h with
  | mk op n args b k B Bs hk ho hl hm hb hB1 hd ha =>
    exact .mk op n args b k B' Bs hk ho hl hm (hB b hb) (fun i hi x hx => ⟨hB x (hB1 i hi x hx).1, (hB1 i hi x hx).2⟩) hd ha
theorem blk_cell {H : AHeap} {b : Nat} {k : Blk} (hk : H b = some k) {j : Nat} (hj : j < k.cells.length) : H.cell (adr (some ⟨b, 0, none⟩) j) = some (k.cells.getD j undef) := by
  rw [adr_lit, Nat.zero_add]
  simp [AHeap.cell, hk, hj]
theorem exR_of {H : AHeap} {b : Nat} {k : Blk} (hk : H b = some k) : ∀ (es : List Ex) (i : Nat), (i + es.length) * 3 ≤ k.cells.length → (∀ j (hj : j < es.length), ExV H es[j] (at3 k.cells (i + j))) → ExR H es (some ⟨b, 0, none⟩) i
  | [], _, _, _ => by simp only [ExR]
  | e :: es, i, hl, h => by
    simp only [ExR]
    simp only [List.length_cons] at hl
    refine ⟨⟨_, _, _, blk_cell hk (by omega), blk_cell hk (by omega), blk_cell hk (by omega), h 0 (by simp)⟩, exR_of hk es (i + 1) (by omega) fun j hj => ?_⟩
    have := h (j + 1) (by simpa using hj)
    rw [show i + 1 + j = i + (j + 1) by omega]
    exact this
theorem Tr.v {H : AHeap} {e : Ex} {cs : List Value} {B : Nat → Prop} (h : Tr H e cs B) : ExV H e cs := by
  induction h with
  | mk op n args b k B Bs hk ho hl hm hb hB hd ha ih =>
    simp only [ExV]
    exact ⟨_, _, rfl, hm, exR_of hk args 0 (by omega) fun j hj => by rw [Nat.zero_add]; exact ih j hj⟩
theorem at3_set {cells : List Value} {i k : Nat} {v0 v1 v2 : Value} (h : i < k) : at3 (((cells.set (k * 3) v0).set (k * 3 + 1) v1).set (k * 3 + 2) v2) i = at3 cells i := by
  simp only [at3, List.getD, List.getElem?_set]
  rw [if_neg (by omega), if_neg (by omega), if_neg (by omega), if_neg (by omega), if_neg (by omega), if_neg (by omega), if_neg (by omega), if_neg (by omega), if_neg (by omega)]
theorem at3_new {cells : List Value} {k : Nat} {v0 v1 v2 : Value} (h : k * 3 + 3 ≤ cells.length) : at3 (((cells.set (k * 3) v0).set (k * 3 + 1) v1).set (k * 3 + 2) v2) k = [v0, v1, v2] := by
  have h0 : k * 3 < cells.length := by omega
  have h1 : k * 3 + 1 < cells.length := by omega
  have h2 : k * 3 + 2 < cells.length := by omega
  simp [at3, List.getElem?_set, h0, h1, h2]
theorem at3_set2 {cells : List Value} {i k : Nat} {v0 v1 : Value} (h : k < i) : at3 ((cells.set (k * 3) v0).set (k * 3 + 1) v1) i = at3 cells i := by
  simp only [at3, List.getD, List.getElem?_set]
  rw [if_neg (by omega), if_neg (by omega), if_neg (by omega), if_neg (by omega), if_neg (by omega), if_neg (by omega)]
end Go.Proofs.Ytoehlgcahiaoeaa
