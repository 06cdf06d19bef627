/- How an expression, given as an argument, is opened. -/
import Derived.Test.YtoehlgcahiaoeaaSxRow
import Derived.Test.YtoehlgcahiaoeaaSxTree
namespace Go.Proofs.Ytoehlgcahiaoeaa
set_option linter.all false
open Go Go.RowKit Go.Joins Go.ChangeShapes Go.WideShapes Go.ChangeAt Go.Deep
set_option linter.unusedVariables false
section
variable {H : Type} {enc : TypeId × Value → H} {P : Program} {w : World} {base : Nat} {spare : Nat → Bool} {held : Bool}
theorem open_expr {t s u : TypeId} {f0 f1 f2 : Field} (ht : P.underlying t = some (.struct #[f0, f1, f2])) (hs : P.underlying s = some (.slice t)) (hu : P.underlying u = some (.int .i64)) (hf : f0.type = u ∧ f1.type = u ∧ f2.type = s) (ho : f0.offset = 0 ∧ f1.offset = 1 ∧ f2.offset = 2)
    (hC : P.cellsOf t = 3) (hcu : P.cellsOf u = 1) (hcs : P.cellsOf s = 1) : ∀ (fuel : Nat) (cs : List Value) (x : DataW H × List MemPlace), DataW.trod enc P w base spare held fuel t cs = some x → ∃ e : Ex, ExV (heapOf w) e cs := by
  intro fuel
  induction fuel using Nat.strongRecOn with
  | ind fuel ih =>
    intro cs x h
    obtain ⟨xs, n, rfl, _, hlen, hxl, hg⟩ := DataW.trod_struct ht h
    rw [hC] at hlen
    match cs, hlen with
    | [c0, c1, c2], _ =>
      match xs, hxl with
      | [y0, y1, y2], _ =>
        have h0 := hg 0 f0 rfl
        have h1 := hg 1 f1 rfl
        have h2 := hg 2 f2 rfl
        rw [hf.1, ho.1, hcu] at h0
        rw [hf.2.1, ho.2.1, hcu] at h1
        rw [hf.2.2, ho.2.2, hcs] at h2
        simp only [List.drop_zero, List.drop_succ_cons, List.take_succ_cons, List.take_zero, List.getElem?_cons_zero, List.getElem?_cons_succ] at h0 h1 h2
        obtain ⟨n0, e0, _, _⟩ := DataW.trod_int hu h0
        obtain ⟨n1, e1, _, _⟩ := DataW.trod_int hu h1
        simp only [List.cons.injEq, and_true] at e0 e1
        subst e0 e1
        rcases DataW.trod_slice hs h2 with ⟨hc, _⟩ | ⟨a, len, cap, elems, rest, m, hfm, hc, _, hb, hl, hm, hel, hat, _, _⟩
        · simp only [List.cons.injEq, and_true] at hc
          subst hc
          refine ⟨.mk n0 n1 [], ?_⟩
          simp only [ExV]
          exact ⟨none, 0, rfl, Nat.zero_le _, by simp only [ExR]⟩
        · simp only [List.cons.injEq, and_true] at hc
          subst hc
          have hq : ∀ d k, k + d = len → ∃ es : List Ex, es.length = d ∧ ExR (heapOf w) es (some a) k := by
            intro d
            induction d with
            | zero => intro k hk; exact ⟨[], rfl, by simp only [ExR]⟩
            | succ d ihd =>
              intro k hk
              obtain ⟨es, hes, hR⟩ := ihd (k + 1) (by omega)
              have hk' := hat k (by omega)
              rw [hC, List.getElem?_eq_getElem (by omega)] at hk'
              obtain ⟨cs', hcs', ht'⟩ := Option.bind_eq_some_iff.1 hk'
              obtain ⟨e, he⟩ := ih m (by omega) cs' _ ht'
              obtain ⟨_, hcl, hcat⟩ := World.cells?_some hcs'
              match cs', hcl with
              | [v0, v1, v2], _ =>
                refine ⟨e :: es, by simp [hes], ?_⟩
                simp only [ExR]
                have g0 := hcat 0 (by omega)
                have g1 := hcat 1 (by omega)
                have g2 := hcat 2 (by omega)
                rw [Go.Deep.add_add] at g0 g1 g2
                simp only [List.getElem?_cons_zero, List.getElem?_cons_succ, Nat.add_zero] at g0 g1 g2
                exact ⟨⟨v0, v1, v2, heap_cell g0, heap_cell g1, heap_cell g2, he⟩, hR⟩
          obtain ⟨es, hes, hR⟩ := hq len 0 (by omega)
          refine ⟨.mk n0 n1 es, ?_⟩
          simp only [ExV]
          exact ⟨some a, cap, by rw [hes], by rw [hes]; omega, hR⟩
end
end Go.Proofs.Ytoehlgcahiaoeaa
