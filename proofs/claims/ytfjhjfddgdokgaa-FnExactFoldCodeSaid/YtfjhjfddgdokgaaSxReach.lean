/- Reachability in plain Lean: what both the worklist and the rounds compute. -/
import Derived.Test.YtfjhjfddgdokgaaSxNextAt
import Derived.Test.YtfjhjfddgdokgaaSxFlow
namespace Go.Proofs.Ytfjhjfddgdokgaa
set_option linter.all false
open Go Go.RowKit
inductive Reach (qs : List Qd) : Nat → Prop
  | zero : Reach qs 0
  | next {i j : Nat} (h : Reach qs i) (hj : (j : Int) ∈ nextAt qs i) : Reach qs j
open Classical in
noncomputable def reachL (qs : List Qd) : List Bool := (List.range qs.length).map fun i => decide (Reach qs i)
open Classical in
/-- Marks that hold 0, are reachable, and are closed, are the reachable ones. -/
theorem reach_eq {qs : List Qd} {s : List Bool} (hl : s.length = qs.length) (h0 : s[0]? = some true) (hr : ∀ i, s[i]? = some true → Reach qs i) (hc : ∀ i, s[i]? = some true → ∀ j : Nat, (j : Int) ∈ nextAt qs i → j < qs.length → s[j]? = some true) (hin : ∀ i j : Nat, Reach qs i → (j : Int) ∈ nextAt qs i → j < qs.length) : s = reachL qs := by
  have key : ∀ i, Reach qs i → s[i]? = some true := by
    intro i h
    induction h with
    | zero => exact h0
    | next h hj ih => exact hc _ ih _ hj (hin _ _ h hj)
  apply List.ext_getElem?
  intro i
  by_cases hi : i < qs.length
  · have hs : s[i]? = some s[i] := List.getElem?_eq_getElem (by omega)
    have e : (reachL qs)[i]? = some (decide (Reach qs i)) := by simp [reachL, hi]
    rw [hs, e]
    congr 1
    by_cases hR : Reach qs i
    · have := key i hR
      rw [hs] at this
      rw [Option.some.inj this]; simp [hR]
    · have : s[i] = false := by
        cases hb : s[i] with
        | false => rfl
        | true => exact absurd (hr i (by rw [hs, hb])) hR
      rw [this]; simp [hR]
  · rw [List.getElem?_eq_none (by omega), List.getElem?_eq_none (by simp [reachL]; omega)]
def jn (qs : List Qd) (i : Nat) : List Nat := (nextAt qs i).map Int.toNat
def reachF (qs : List Qd) : Fw Bool where
  ok _ := True
  le a b := a = true → b = true
  join a b := a || b
  edges i a := if a then jn qs i else []
  tr _ a := a
  ht a := if a then 0 else 1
  refl _ h := h
  trans h h' x := h' (h x)
  anti := by intro a b _ _ h h'; cases a <;> cases b <;> simp_all
  ok_join _ _ := trivial
  ok_tr _ := trivial
  join_l := by intro a b _ _ h; simp [h]
  join_r := by intro a b _ _ h; simp [h]
  join_le := by intro a b c _ _ _ h h' x; cases a <;> cases b <;> simp_all
  mono_tr := by intro _ a b _ _ h; exact h
  mono_ed := by intro i j a b _ _ h hj; cases a <;> cases b <;> simp_all
  ht_lt := by intro a b _ _ h; cases a <;> cases b <;> simp_all
def reach0 (n : Nat) : List Bool := true :: List.replicate (n - 1) false
theorem reach0_len {n : Nat} (h : 1 ≤ n) : (reach0 n).length = n := by simp [reach0]; omega
theorem repl_false (n : Nat) : repl [.bool false] n = bools (List.replicate n false) := by
  induction n with
  | zero => rfl
  | succ n ih => simp only [repl, ih, bools, List.replicate_succ, List.map_cons]; rfl
theorem reach0_set {n : Nat} (h : 1 ≤ n) : (List.replicate n false).set 0 true = reach0 n := by
  obtain ⟨m, rfl⟩ : ∃ m, n = m + 1 := ⟨n - 1, by omega⟩
  simp [reach0, List.replicate_succ]
theorem jn_in {qs : List Qd} (hv : codeValid qs = true) {i j : Nat} (hi : i < qs.length) : j ∈ jn qs i ↔ (j : Int) ∈ nextAt qs i := by
  simp only [jn, List.mem_map]
  constructor
  · rintro ⟨x, hx, rfl⟩
    rw [nextAt_eq hi] at hx ⊢
    have := next_in hv hi hx
    rwa [Int.toNat_of_nonneg this.1]
  · intro h; exact ⟨j, h, by simp⟩
theorem reach_lt {qs : List Qd} (hv : codeValid qs = true) {i : Nat} (h : Reach qs i) : i < qs.length := by
  induction h with
  | zero => have := (code_at hv).1; omega
  | next h hj ih =>
    rw [nextAt_eq ih] at hj
    have := next_in hv ih hj
    omega
open Classical in
theorem reach_closed {qs : List Qd} (hv : codeValid qs = true) : (reachF qs).Closed (reach0 qs.length) (reachL qs) := by
  have hc := code_at hv
  have at_ : ∀ i v, (reachL qs)[i]? = some v → i < qs.length ∧ v = decide (Reach qs i) := by
    intro i v h
    have hi : i < qs.length := by have := (List.getElem?_eq_some_iff.1 h).1; simpa [reachL] using this
    simp [reachL, hi] at h
    exact ⟨hi, h.symm⟩
  refine ⟨by rw [reach0_len hc.1]; simp [reachL], fun _ _ _ => trivial, fun i v u hv' hu ht => ?_, fun i v hv' j hj u hu ht => ?_⟩
  · obtain ⟨hi, rfl⟩ := at_ i u hu
    subst ht
    cases i with
    | zero => simp [Reach.zero]
    | succ i => simp only [reach0, List.getElem?_cons_succ, List.getElem?_replicate] at hv'; split at hv' <;> simp at hv'
  · obtain ⟨hi, rfl⟩ := at_ i v hv'
    obtain ⟨hj', rfl⟩ := at_ j u hu
    simp only [reachF] at ht hj
    rw [if_pos ht] at hj
    simp only [decide_eq_true_eq] at ht ⊢
    exact .next ht ((jn_in hv hi).1 hj)
theorem reach_sol {qs : List Qd} (hv : codeValid qs = true) {s : List Bool} (h : (reachF qs).Sol (reach0 qs.length) s) : s = reachL qs := by
  have hc := code_at hv
  have hl : s.length = qs.length := h.1.1.trans (reach0_len hc.1)
  refine reach_eq hl ?_ (fun i hi => ?_) (fun i hi j hj hjl => ?_) (fun i j hi hj => reach_lt hv (.next hi hj))
  · have h0 : 0 < s.length := by omega
    rw [List.getElem?_eq_getElem h0]
    exact congrArg some (h.1.2.2.1 0 true _ rfl (List.getElem?_eq_getElem h0) rfl)
  · have hlt : i < qs.length := by rw [← hl]; exact (List.getElem?_eq_some_iff.1 hi).1
    have := h.1.2.2.2 _ (reach_closed hv) i true _ hi (by simp [reachL, hlt]; rfl) rfl
    simpa using this
  · have hlt : i < qs.length := by rw [← hl]; exact (List.getElem?_eq_some_iff.1 hi).1
    have hj1 : j < s.length := by omega
    rw [List.getElem?_eq_getElem hj1]
    exact congrArg some (h.2 i true hi j (by simp only [reachF, if_true]; exact (jn_in hv hlt).2 hj) _ (List.getElem?_eq_getElem hj1) rfl)
end Go.Proofs.Ytfjhjfddgdokgaa
