/- From the abstract walk of a law to its row: what the law's call is, and how the arguments are opened. -/
import Derived.Test.YtoehlgcahiaoeaaRows
import Derived.Test.YtoehlgcahiaoeaaSxQuad
import Derived.WalkKit
import Derived.ProofKit
import Derived.OpenShut
import Derived.ShutString
import Derived.ChangeOld
import Derived.Below
import Derived.SizedLaws
import Derived.Lib.SmallJoins
import Derived.Deep.Slices
import Derived.Deep.Fields
import Derived.ChangeSame
namespace Go.Proofs.Ytoehlgcahiaoeaa
set_option linter.all false
open Go Go.RowKit Go.Joins Go.ChangeShapes Go.WideShapes Go.ChangeAt Go.Deep
set_option linter.unusedVariables false
set_option maxRecDepth 100000

theorem own : ownKnob Try.prog.godebug = none := by kernel_rfl
theorem laidOut : laidOutB Try.prog = true := by kernel_rfl
theorem calls_true {P : Program} {w0 : World} {H : AHeap} {f : Nat} {args : List Value} (h : ACalls P w0 f args H fun v _ => v = .bool true) (hs : Sat w0 H w0) :
    Calls P f args.toArray w0 fun e w' => e = .returned (.bool true) ∧ Below w0.heap.size w0 w' :=
  (h.2 w0 hs).mono fun e w' ⟨v, H', he, hs', hv⟩ => ⟨by rw [he, hv], hs'.below⟩
theorem sat_none (w : World) : Sat w (fun _ => none) w := ⟨Below.refl _ _, fun b k hk => by cases hk⟩
/-- The heap that is there: for reading alone. -/
def heapOf (w : World) : AHeap := fun b => match w.heap[b]? with
  | some (.cells c t _) => some ⟨c.toList, false, t, c.size⟩
  | _ => none
theorem sat_heap (w : World) : Sat w (heapOf w) w := ⟨Below.refl _ _, fun b k hk => by
  unfold heapOf at hk
  split at hk
  · rename_i c t fz hw
    obtain rfl := Option.some.inj hk
    exact ⟨c, fz, hw, rfl, fun j v hv => by simpa using hv, fun h => by cases h⟩
  · cases hk⟩
theorem heap_cell {w : World} {a : Addr} {v : Value} (h : w.cell? a = some v) : (heapOf w).cell (some a) = some v := by
  simp only [World.cell?] at h
  simp only [AHeap.cell, heapOf]
  split at h
  · rename_i c t fz hw
    rw [hw]
    split at h
    · cases h
    · rename_i hs
      rw [if_neg hs]
      simpa using h
  · cases h

section
variable {H : Type} {enc : TypeId × Value → H} {P : Program} {w : World} {base : Nat} {spare : Nat → Bool} {held : Bool}
theorem open_agg5 {r : Reach} {b0 : Nat} {t : TypeId} {f0 f1 f2 f3 f4 : Field} {v : Value} {d : DataW H} {p : List MemPlace} (hs : P.underlying t = some (.struct #[f0, f1, f2, f3, f4])) (hone : oneCellFields P #[f0, f1, f2, f3, f4] = true) (hC : P.cellsOf t = 5)
    (hv : Value.okWide P w r b0 t v) (h : DataW.Trod enc P w base spare held t v d p) :
    ∃ (v0 v1 v2 v3 v4 : Value) (y0 y1 y2 y3 y4 : DataW H × List MemPlace) (n : Nat), v = .agg #[v0, v1, v2, v3, v4] ∧ d = .agg [y0.1, y1.1, y2.1, y3.1, y4.1] ∧ p = y0.2 ++ (y1.2 ++ (y2.2 ++ (y3.2 ++ y4.2))) ∧
      DataW.trod enc P w base spare held n f0.type [v0] = some y0 ∧ DataW.trod enc P w base spare held n f1.type [v1] = some y1 ∧ DataW.trod enc P w base spare held n f2.type [v2] = some y2 ∧ DataW.trod enc P w base spare held n f3.type [v3] = some y3 ∧ DataW.trod enc P w base spare held n f4.type [v4] = some y4 := by
  obtain ⟨cs, rfl, hsz⟩ := okWide_struct hs hv
  obtain ⟨l⟩ := cs
  match l, hsz.trans hC with
  | [c0, c1, c2, c3, c4], _ =>
    obtain ⟨fuel, hf⟩ := h
    obtain ⟨xs, n, _, hx, _, hlen, hg⟩ := DataW.trod_struct hs hf
    obtain ⟨o0, k0⟩ := hone_of hone 0 f0 rfl
    obtain ⟨o1, k1⟩ := hone_of hone 1 f1 rfl
    obtain ⟨o2, k2⟩ := hone_of hone 2 f2 rfl
    obtain ⟨o3, k3⟩ := hone_of hone 3 f3 rfl
    obtain ⟨o4, k4⟩ := hone_of hone 4 f4 rfl
    match xs, hlen with
    | [y0, y1, y2, y3, y4], _ =>
      simp only [Prod.mk.injEq] at hx
      exact ⟨c0, c1, c2, c3, c4, y0, y1, y2, y3, y4, n, rfl, by simpa using hx.1, by simpa using hx.2, by simpa [Value.cells, o0, k0] using hg 0 f0 rfl, by simpa [Value.cells, o1, k1] using hg 1 f1 rfl, by simpa [Value.cells, o2, k2] using hg 2 f2 rfl, by simpa [Value.cells, o3, k3] using hg 3 f3 rfl, by simpa [Value.cells, o4, k4] using hg 4 f4 rfl⟩
end
end Go.Proofs.Ytoehlgcahiaoeaa
