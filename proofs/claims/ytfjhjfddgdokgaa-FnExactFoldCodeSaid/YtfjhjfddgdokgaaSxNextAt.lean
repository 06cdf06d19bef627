/- What follows a quad of a code lies in the code. -/
import Derived.Test.YtfjhjfddgdokgaaSxNext
namespace Go.Proofs.Ytfjhjfddgdokgaa
set_option linter.all false
open Go Go.RowKit
def nextAt (qs : List Qd) (i : Nat) : List Int := ((qs[i]?).map (nextL · i)).getD []
theorem nextAt_eq {qs : List Qd} {i : Nat} (h : i < qs.length) : nextAt qs i = nextL qs[i] i := by simp [nextAt, h]
theorem next_in {qs : List Qd} (hv : codeValid qs = true) {i : Nat} (hi : i < qs.length) {x : Int} (hx : x ∈ nextL qs[i] i) : 0 ≤ x ∧ x < qs.length := by
  have hc := code_at hv
  have hq := hc.2.2 i hi
  have hl : i + 1 < qs.length ∨ (qs[i].op = 10 ∨ qs[i].op = 4) := by
    by_cases h1 : i + 1 < qs.length
    · exact .inl h1
    · right
      simp only [codeValid, Bool.and_eq_true, Bool.or_eq_true, beq_iff_eq] at hv
      have := hv.2
      rw [show qs.length - 1 = i by omega, opAt_eq hi] at this
      exact this
  simp only [nextL] at hx
  split at hx
  · cases hx
  · split at hx
    · rename_i h4
      simp only [List.mem_cons, List.not_mem_nil, or_false] at hx
      subst hx
      simp only [quadValid, h4] at hq
      simp at hq
      omega
    · have h5 : qs[i].op = 5 → 0 ≤ qs[i].n ∧ qs[i].n < qs.length := by
        intro h5
        simp only [quadValid, h5] at hq
        simp at hq
        omega
      have hl' : i + 1 < qs.length := by omega
      split at hx
      · rename_i h
        simp only [List.mem_cons, List.not_mem_nil, or_false] at hx
        have := h5 h.1
        rcases hx with rfl | rfl <;> omega
      · split at hx
        · rename_i h
          simp only [List.mem_cons, List.not_mem_nil, or_false] at hx
          have := h5 h.1
          rcases hx with rfl | rfl <;> omega
        · simp only [List.mem_cons, List.not_mem_nil, or_false] at hx
          omega
theorem valid_more {q : Qd} {m m' : Int} (h : quadValid q m = true) (hm : m ≤ m') : quadValid q m' = true := by
  simp only [quadValid] at h ⊢
  repeat' split at h
  all_goals first
    | (cases h; done)
    | (simp_all; done)
    | (simp_all; omega)
end Go.Proofs.Ytfjhjfddgdokgaa
