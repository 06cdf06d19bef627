/- The contracts of CodeReach, both sides. -/
import Derived.Test.YtfjhjfddgdokgaaSxReach
import Derived.Test.YtfjhjfddgdokgaaSxHold
namespace Go.Proofs.Ytfjhjfddgdokgaa
set_option linter.all false
open Go Go.RowKit
set_option maxRecDepth 100000
variable (w0 : World) (H : AHeap) (K : Value → AHeap → Prop)
noncomputable def codeReach (qs : List Qd) : List Bool := if codeValid qs then reachL qs else []
theorem codeReach_le (qs : List Qd) : (codeReach qs).length ≤ 600 := by
  unfold codeReach
  split
  · rename_i h; have := (code_at h).2.1; simp [reachL]; omega
  · simp
end Go.Proofs.Ytfjhjfddgdokgaa
