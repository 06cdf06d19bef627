/- Whatever order is picked: what is asked behind an operation may be left out where nothing is left to come. -/
import Derived.OrdersHeld
import Derived.Deep.RegionHeld
namespace Go.Proofs.Ytfjhjfddgdokgaa
set_option linter.all false
open Go
/-- Something has not come up yet. -/
def Left (listed : Array Bool) : Prop := ∃ k, listed.getD k true = false
def Behind (P : Program) (ops : Array Oper) (Q : Exit → Act → World → Prop) (S : World → Prop) (z : Bool) : Nat → Array Bool → Act → World → Prop
  | 0, listed, a, w => Region.ready .any ops listed = [] ∧ Q .normal a w
  | fuel + 1, listed, a, w => (Region.ready .any ops listed = [] → Q .normal a w) ∧
    ∀ i ∈ Region.ready .any ops listed, wpOp P ops Q i (fun a' w' => ((z = false ∨ Left (listed.setIfInBounds i true)) → S w') ∧ Behind P ops Q S z fuel (listed.setIfInBounds i true) a' w') a w
section
variable {P : Program} {ops : Array Oper} {Q : Exit → Act → World → Prop} {S : World → Prop} {z : Bool}
theorem Behind.any : ∀ (fuel : Nat) (listed : Array Bool) (a : Act) (w : World), Behind P ops Q S z fuel listed a w → wpAny P .any ops Q fuel listed a w
  | 0, _, _, _, h => h
  | fuel + 1, _, _, _, h => ⟨h.1, fun i hi => wpOp_mono (fun a' w' h' => Behind.any fuel _ a' w' h'.2) (h.2 i hi)⟩
/-- Somebody who has not come up waits for i. -/
def Wants (ops : Array Oper) (listed : Array Bool) (i : Nat) : Prop := ∃ (k : Nat) (o : Oper), ops[k]? = some o ∧ k ≠ i ∧ listed.getD k true = false ∧ ∃ e ∈ o.after, Region.binds .any e = true ∧ e.on = i
theorem Wants.left {listed : Array Bool} {i : Nat} (h : Wants ops listed i) : Left (listed.setIfInBounds i true) := by
  obtain ⟨k, o, h1, h2, h3, h4⟩ := h
  exact ⟨k, by rw [getD_set_ne true (Ne.symm h2)]; exact h3⟩
theorem ready_all {listed : Array Bool} {i : Nat} {o : Oper} (hi : ops[i]? = some o) (h : i ∈ Region.ready .any ops listed) : listed.getD i true = false ∧ ∀ e ∈ o.after, Region.binds .any e = true → listed.getD e.on false = true := by
  obtain ⟨h0, o', ho, hall⟩ := mem_ready.1 h
  rw [hi] at ho
  obtain rfl := Option.some.inj ho
  exact ⟨h0, hall⟩
theorem not_both {listed : Array Bool} {i : Nat} (h0 : listed.getD i true = false) (h1 : listed.getD i false = true) : False := by
  simp only [Array.getD_eq_getD_getElem?] at h0 h1
  cases h : listed[i]? with
  | none => rw [h] at h0; cases h0
  | some b => rw [h] at h0 h1; simp at h0 h1; rw [h0] at h1; cases h1
theorem Wants.step {listed : Array Bool} {i j : Nat} (h : Wants ops listed i) (hi : listed.getD i true = false) (hj : j ∈ Region.ready .any ops listed) : Wants ops (listed.setIfInBounds j true) i := by
  obtain ⟨k, o, h1, h2, h3, e, he, hb, hon⟩ := h
  refine ⟨k, o, h1, h2, ?_, e, he, hb, hon⟩
  by_cases hjk : j = k
  · subst hjk
    have := (ready_all h1 hj).2 e he hb
    rw [hon] at this
    exact (not_both hi this).elim
  · rw [getD_set_ne true hjk]; exact h3
theorem Behind.take {i : Nat} {oi : Oper} {v : Value} (hi : ops[i]? = some oi) (hs : Region.noSelect ops = true) (hQ : ∀ c a w, Q (.panic c) (a.put oi.dst v) w → Q (.panic c) a w) :
    ∀ (fuel : Nat) (listed : Array Bool) (a : Act) (w : World), (∀ (j : Nat) (oj : Oper), ops[j]? = some oj → j ≠ i → listed.getD j true = false → (∀ e ∈ oj.after, Region.binds .any e = true → e.on ≠ i) → oi.apart ops oj = true) →
      (z = true → Wants ops listed i) → i ∈ Region.ready .any ops listed → YieldsIf P ops S oi v a → S w →
      Behind P ops Q S z fuel (listed.setIfInBounds i true) (a.put oi.dst v) w → Behind P ops Q S z (fuel + 1) listed a w := by
  have hsel := Region.noSelect_spec hs
  intro fuel
  induction fuel with
  | zero =>
    intro listed a w _ _ hr hy hS hB
    refine ⟨fun h0 => (by rw [h0] at hr; cases hr), fun j hj => ?_⟩
    by_cases hji : j = i
    · subst hji; exact hy.wpOp hi hS ⟨fun _ => hS, hB⟩
    · have h0 := ready_mono hj hji
      rw [hB.1] at h0; cases h0
  | succ fuel ih =>
    intro listed a w hfree hwant hr hy hS hB
    refine ⟨fun h0 => (by rw [h0] at hr; cases hr), fun j hj => ?_⟩
    by_cases hji : j = i
    · subst hji; exact hy.wpOp hi hS ⟨fun _ => hS, hB⟩
    · obtain ⟨hju, oj, hoj, hall⟩ := mem_ready.1 hj
      have hiu : listed.getD i true = false := (mem_ready.1 hr).1
      have hnot : ∀ e ∈ oj.after, Region.binds .any e = true → e.on ≠ i := fun e he hb heq => not_both hiu (heq ▸ hall e he hb)
      have h2 := wpOp_putIf hoj (hfree j oj hoj hji hju hnot) (fun cs b => hsel i oi cs b hi) (fun cs b => hsel j oj cs b hoj) hQ hy (hB.2 j (ready_mono hj hji))
      refine wpOp_mono (fun a' w' h3 => ?_) h2
      have hS' : S w' := h3.2.1 (by
        cases z with
        | false => exact .inl rfl
        | true =>
          refine .inr ?_
          have := ((hwant rfl).step hiu hj).left
          rwa [Array.setIfInBounds_comm _ _ hji] at this)
      refine ⟨fun _ => hS', ih _ a' w' (fun k ok hk hki hun hno => hfree k ok hk hki ?_ hno) (fun hz => (hwant hz).step hiu hj) (ready_mono hr (Ne.symm hji)) h3.1 hS' ?_⟩
      · by_cases hjk : j = k
        · subst hjk; exact hju
        · rwa [getD_set_ne true hjk] at hun
      · rw [Array.setIfInBounds_comm _ _ hji]; exact h3.2.2
theorem Behind.all {rs : List Nat} {fuel : Nat} {listed : Array Bool} {a : Act} {w : World} (hr : Region.ready .any ops listed = rs) (hne : rs ≠ [])
    (h : ∀ i ∈ rs, wpOp P ops Q i (fun a' w' => ((z = false ∨ Left (listed.setIfInBounds i true)) → S w') ∧ Behind P ops Q S z fuel (listed.setIfInBounds i true) a' w') a w) : Behind P ops Q S z (fuel + 1) listed a w :=
  ⟨fun h0 => absurd (hr ▸ h0) hne, hr ▸ h⟩
theorem Behind.done {listed : Array Bool} {a : Act} {w : World} (hr : Region.ready .any ops listed = []) (h : Q .normal a w) : ∀ fuel, Behind P ops Q S z fuel listed a w
  | 0 => ⟨hr, h⟩
  | _ + 1 => ⟨fun _ => h, by rw [hr]; simp⟩
theorem Behind.region {id : Nat} {a : Act} {w : World} (hm : P.follows .mixedOrders = true) (h : Behind P ops Q S z ops.size (Array.replicate ops.size false) a w.drew) : (Code.region id ops true).wp P Q a w :=
  wp_region_any hm (Behind.any _ _ _ _ h)
end
/-! The Bools. -/
def wants (ops : Array Oper) (listed : Array Bool) (i : Nat) : Bool := (List.range ops.size).any fun k => k != i && !(listed.getD k true) && (match ops[k]? with | some o => o.after.any (fun e => Region.binds .any e && e.on == i) | none => false)
theorem wants_spec {ops : Array Oper} {listed : Array Bool} {i : Nat} (h : wants ops listed i = true) : Wants ops listed i := by
  simp only [wants, List.any_eq_true, Bool.and_eq_true, bne_iff_ne, Bool.not_eq_true'] at h
  obtain ⟨k, _, ⟨h1, h2⟩, h3⟩ := h
  split at h3
  · rename_i o ho
    simp only [Array.any_eq_true', Bool.and_eq_true, beq_iff_eq] at h3
    obtain ⟨e, he, hb, hon⟩ := h3
    exact ⟨k, o, ho, h1, h2, e, he, hb, hon⟩
  · cases h3
def allUp (listed : Array Bool) : Bool := listed.all fun b => b
theorem allUp_spec {listed : Array Bool} (h : allUp listed = true) : ¬ Left listed := by
  rintro ⟨k, hk⟩
  simp only [allUp, Array.all_eq_true] at h
  simp only [Array.getD_eq_getD_getElem?] at hk
  cases hb : listed[k]? with
  | none => rw [hb] at hk; cases hk
  | some b =>
    obtain ⟨hlt, rfl⟩ := Array.getElem?_eq_some_iff.1 hb
    rw [hb] at hk
    have := h k hlt
    simp at hk this
    rw [this] at hk; cases hk
end Go.Proofs.Ytfjhjfddgdokgaa
