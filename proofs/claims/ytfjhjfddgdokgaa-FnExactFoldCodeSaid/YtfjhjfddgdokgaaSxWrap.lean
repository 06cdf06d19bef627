/- The contracts of marking, holding and copying, with rows of the call's own. -/
import Derived.Test.YtfjhjfddgdokgaaSxHold
import Derived.Test.YtfjhjfddgdokgaaSxCodes
import Derived.Test.YtfjhjfddgdokgaaSxMark
namespace Go.Proofs.Ytfjhjfddgdokgaa
set_option linter.all false
open Go Go.RowKit
set_option maxRecDepth 100000
variable (w0 : World) (C : AHeap) (K : Value → AHeap → Prop)
theorem markQuadS_rw {t : TypeId} {v : Value} {n : Nat} {xs : List Value} {bs : List Nat} (hr : Rw C t 5 v n xs bs) (hn : n ≤ 4294967296) (k : Int) (h0 : 0 ≤ k) (h1 : k ≤ 4294967296)
    (h : ∀ C', Chg C C' bs → Rw C' t 5 v n (ints (marks k (n * 5))) bs → K (.int .i64 (k + 5 * n)) C') : ACalls Try.prog w0 21 [v, .int .i64 k] C K := by
  obtain ⟨A, B, lB, oB, hA⟩ := hr.own_
  refine ACalls.mono (markQuadS_ok _ _ _ _ _ _ _ _ k oB hn h0 h1 (fun C' o => ?_)) lB
  obtain ⟨h1, h2⟩ := Rw.put oB hA hr rfl o
  exact h C' h1 h2
end Go.Proofs.Ytfjhjfddgdokgaa
