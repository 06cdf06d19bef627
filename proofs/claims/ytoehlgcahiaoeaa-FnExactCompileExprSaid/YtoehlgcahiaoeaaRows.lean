/-
  NARROWER THAN 'FOR EVERY INPUT', by the rows' own cells (each row's printed sentence says how): FnExactCompileExpr: loops.
  DERIVED. THE GIVEN ROWS OF THIS SEAT. 6 by the template 'for every input the law returns true; each argument reads behind the call as it read before'; 0 by the template 'total and deterministic' (their statements: YtoehlgcahiaoeaaTotals.lean).
  GIVEN WITH THE SEED: the statements are not yours to turn. If you find one false, say at which input.
  Laid BY PROGRAM, IN A SANDBOX (cutbox-rows.mjs): the forced cells as the released guide's own fill.sh prints them over the translation 7ff5f39d1205441e… (all of the seat's roots in one cut). By AI agents, Wed Nov 11 2026. No macro, syntax, notation, axiom, sorry.
-/
import Derived.Test.YtoehlgcahiaoeaaChecked
import GoSem.Claim
import GoSem.ClaimJoined
import GoSem.ClaimMapViews
import Derived.JoinedTies
import Derived.KernelRfl
namespace Go.Proofs.Ytoehlgcahiaoeaa
/- THE CELL 'sum', in the pinned program and in every row, IS THE sha256 OF THE DUMP (.gsa) THAT YtoehlgcahiaoeaaProg.lean LOADS. Nothing in Lean hashes anything: it is a label: what it is worth is what the hold of that sum in a sandbox is worth. -/
noncomputable def Try.pinned : Pinned := { name := "ytoehlgcahiaoeaa", sum := "7ff5f39d1205441ee69625d325439ce7bfccddcab995b2e1ffaabc6a5a5ae70a", checked := Try.checked }
namespace Rows
def none {H : Type} : Left H := { results := [], args := [] }

/-- 'laws.FnExactQuadSets': WHATEVER THE INPUT: true; the input reads as it did. -/
def fnExactQuadSetsSpec : ChangeSpec := { name := "fnExactQuadSets", fn := fun _ => fun
  | [d] => { results := [.lit (.bool true)], args := [d] }
  | _ => none }
def fnExactQuadSetsRow : OpenClaim := { program := "ytoehlgcahiaoeaa", sum := "7ff5f39d1205441ee69625d325439ce7bfccddcab995b2e1ffaabc6a5a5ae70a", func := "loop.example/cothreads/laws.FnExactQuadSets", spec := "fnExactQuadSets", apart := false }
def FnExactQuadSetsSaid : Prop := fnExactQuadSetsRow.holds Try.pinned (OpenSpec.ofChange fnExactQuadSetsSpec)

/-- ITS FALSE NEIGHBOUR: 'it returns false'. Refute it at one input. -/
def fnExactQuadSetsWrong : ChangeSpec := { name := "fnExactQuadSets", fn := fun _ => fun
  | [d] => { results := [.lit (.bool false)], args := [d] }
  | _ => none }
def FnExactQuadSetsWrongFalsely : Prop := fnExactQuadSetsRow.holds Try.pinned (OpenSpec.ofChange fnExactQuadSetsWrong)

/-- 'laws.FnExactQuadUses': WHATEVER THE INPUT: true; the input reads as it did. -/
def fnExactQuadUsesSpec : ChangeSpec := { name := "fnExactQuadUses", fn := fun _ => fun
  | [d] => { results := [.lit (.bool true)], args := [d] }
  | _ => none }
def fnExactQuadUsesRow : OpenClaim := { program := "ytoehlgcahiaoeaa", sum := "7ff5f39d1205441ee69625d325439ce7bfccddcab995b2e1ffaabc6a5a5ae70a", func := "loop.example/cothreads/laws.FnExactQuadUses", spec := "fnExactQuadUses", apart := false }
def FnExactQuadUsesSaid : Prop := fnExactQuadUsesRow.holds Try.pinned (OpenSpec.ofChange fnExactQuadUsesSpec)

/-- ITS FALSE NEIGHBOUR: 'it returns false'. Refute it at one input. -/
def fnExactQuadUsesWrong : ChangeSpec := { name := "fnExactQuadUses", fn := fun _ => fun
  | [d] => { results := [.lit (.bool false)], args := [d] }
  | _ => none }
def FnExactQuadUsesWrongFalsely : Prop := fnExactQuadUsesRow.holds Try.pinned (OpenSpec.ofChange fnExactQuadUsesWrong)

/-- 'laws.FnExactJumpTarget': WHATEVER THE INPUT: true; the input reads as it did. -/
def fnExactJumpTargetSpec : ChangeSpec := { name := "fnExactJumpTarget", fn := fun _ => fun
  | [d1, d2] => { results := [.lit (.bool true)], args := [d1, d2] }
  | _ => none }
def fnExactJumpTargetRow : OpenClaim := { program := "ytoehlgcahiaoeaa", sum := "7ff5f39d1205441ee69625d325439ce7bfccddcab995b2e1ffaabc6a5a5ae70a", func := "loop.example/cothreads/laws.FnExactJumpTarget", spec := "fnExactJumpTarget", apart := false }
def FnExactJumpTargetSaid : Prop := fnExactJumpTargetRow.holds Try.pinned (OpenSpec.ofChange fnExactJumpTargetSpec)

/-- ITS FALSE NEIGHBOUR: 'it returns false'. Refute it at one input. -/
def fnExactJumpTargetWrong : ChangeSpec := { name := "fnExactJumpTarget", fn := fun _ => fun
  | [d1, d2] => { results := [.lit (.bool false)], args := [d1, d2] }
  | _ => none }
def FnExactJumpTargetWrongFalsely : Prop := fnExactJumpTargetRow.holds Try.pinned (OpenSpec.ofChange fnExactJumpTargetWrong)

/-- 'laws.FnSets': WHATEVER THE INPUT: true; the input reads as it did. -/
def fnSetsSpec : ChangeSpec := { name := "fnSets", fn := fun _ => fun
  | [d] => { results := [.lit (.bool true)], args := [d] }
  | _ => none }
def fnSetsRow : OpenClaim := { program := "ytoehlgcahiaoeaa", sum := "7ff5f39d1205441ee69625d325439ce7bfccddcab995b2e1ffaabc6a5a5ae70a", func := "loop.example/cothreads/laws.FnSets", spec := "fnSets", apart := false }
def FnSetsSaid : Prop := fnSetsRow.holds Try.pinned (OpenSpec.ofChange fnSetsSpec)

/-- ITS FALSE NEIGHBOUR: 'it returns false'. Refute it at one input. -/
def fnSetsWrong : ChangeSpec := { name := "fnSets", fn := fun _ => fun
  | [d] => { results := [.lit (.bool false)], args := [d] }
  | _ => none }
def FnSetsWrongFalsely : Prop := fnSetsRow.holds Try.pinned (OpenSpec.ofChange fnSetsWrong)

/-- 'laws.FnExactCompileExpr': WHATEVER THE INPUT: true; the input reads as it did. -/
def fnExactCompileExprSpec : ChangeSpec := { name := "fnExactCompileExpr", fn := fun _ => fun
  | [d1, d2] => { results := [.lit (.bool true)], args := [d1, d2] }
  | _ => none }
def fnExactCompileExprRow : OpenClaim := { program := "ytoehlgcahiaoeaa", sum := "7ff5f39d1205441ee69625d325439ce7bfccddcab995b2e1ffaabc6a5a5ae70a", func := "loop.example/cothreads/laws.FnExactCompileExpr", spec := "fnExactCompileExpr", recurses := true, loops := true, apart := false }
def FnExactCompileExprSaid : Prop := fnExactCompileExprRow.holds Try.pinned (OpenSpec.ofChange fnExactCompileExprSpec)

/-- ITS FALSE NEIGHBOUR: 'it returns false'. Refute it at one input. -/
def fnExactCompileExprWrong : ChangeSpec := { name := "fnExactCompileExpr", fn := fun _ => fun
  | [d1, d2] => { results := [.lit (.bool false)], args := [d1, d2] }
  | _ => none }
def FnExactCompileExprWrongFalsely : Prop := fnExactCompileExprRow.holds Try.pinned (OpenSpec.ofChange fnExactCompileExprWrong)

/-- 'laws.FnUses': WHATEVER THE INPUT: true; the input reads as it did. -/
def fnUsesSpec : ChangeSpec := { name := "fnUses", fn := fun _ => fun
  | [d] => { results := [.lit (.bool true)], args := [d] }
  | _ => none }
def fnUsesRow : OpenClaim := { program := "ytoehlgcahiaoeaa", sum := "7ff5f39d1205441ee69625d325439ce7bfccddcab995b2e1ffaabc6a5a5ae70a", func := "loop.example/cothreads/laws.FnUses", spec := "fnUses", apart := false }
def FnUsesSaid : Prop := fnUsesRow.holds Try.pinned (OpenSpec.ofChange fnUsesSpec)

/-- ITS FALSE NEIGHBOUR: 'it returns false'. Refute it at one input. -/
def fnUsesWrong : ChangeSpec := { name := "fnUses", fn := fun _ => fun
  | [d] => { results := [.lit (.bool false)], args := [d] }
  | _ => none }
def FnUsesWrongFalsely : Prop := fnUsesRow.holds Try.pinned (OpenSpec.ofChange fnUsesWrong)

/- THE SECOND FORM. 'bulk': how many values and letters a reading holds, each counted each time it is reached (what is shared counts as often as it is met; a slice's spare places count too). A statement '..UptoSaid' is the law's where the arguments, and the package variables that the reading takes, are together of bulk at most 1048576: NARROWER than '..Said'. Prove '..Said' where nothing that the law and all that it calls make is longer than what came in: it says more and counts as full. Else prove '..UptoSaid'. A law counts once. -/
mutual
def uptoBulk {H : Type} : DataW H → Nat
  | .lit (.string bytes) => bytes.length + 1
  | .lit _ => 1
  | .nil => 1
  | .ptr d => uptoBulk d + 1
  | .slice elems spare => uptoBulkAll elems + uptoBulkAll spare + 1
  | .agg parts => uptoBulkAll parts + 1
  | .iface _ d => uptoBulk d + 1
  | .map entries => uptoBulkEntries entries + 1
  | .held _ => 1
def uptoBulkAll {H : Type} : List (DataW H) → Nat
  | [] => 0
  | d :: r => uptoBulk d + uptoBulkAll r
def uptoBulkEntries {H : Type} : List (Lit × DataW H) → Nat
  | [] => 0
  | x :: r => uptoBulkEntry x + uptoBulkEntries r
def uptoBulkEntry {H : Type} : Lit × DataW H → Nat
  | (.string bytes, d) => bytes.length + uptoBulk d + 1
  | (_, d) => uptoBulk d + 1
 end
def uptoSmall : (H : Type) → List (DataW H) → Bool := fun _ ds => decide (uptoBulkAll ds ≤ 1048576)
def OpenSpec.upto (s : _root_.Go.ChangeSpec) : _root_.Go.OpenSpec := { _root_.Go.OpenSpec.ofChange s with cond := some uptoSmall }

/-- 'laws.FnExactQuadSets', WHERE WHAT IT READS IS OF BULK AT MOST 1048576: true; the input reads as it did. -/
def fnExactQuadSetsUptoRow : OpenClaim := { program := "ytoehlgcahiaoeaa", sum := "7ff5f39d1205441ee69625d325439ce7bfccddcab995b2e1ffaabc6a5a5ae70a", func := "loop.example/cothreads/laws.FnExactQuadSets", spec := "fnExactQuadSets", apart := false, narrowed := true }
def FnExactQuadSetsUptoSaid : Prop := fnExactQuadSetsUptoRow.holds Try.pinned (OpenSpec.upto fnExactQuadSetsSpec)

/-- 'laws.FnExactQuadUses', WHERE WHAT IT READS IS OF BULK AT MOST 1048576: true; the input reads as it did. -/
def fnExactQuadUsesUptoRow : OpenClaim := { program := "ytoehlgcahiaoeaa", sum := "7ff5f39d1205441ee69625d325439ce7bfccddcab995b2e1ffaabc6a5a5ae70a", func := "loop.example/cothreads/laws.FnExactQuadUses", spec := "fnExactQuadUses", apart := false, narrowed := true }
def FnExactQuadUsesUptoSaid : Prop := fnExactQuadUsesUptoRow.holds Try.pinned (OpenSpec.upto fnExactQuadUsesSpec)

/-- 'laws.FnExactJumpTarget', WHERE WHAT IT READS IS OF BULK AT MOST 1048576: true; the input reads as it did. -/
def fnExactJumpTargetUptoRow : OpenClaim := { program := "ytoehlgcahiaoeaa", sum := "7ff5f39d1205441ee69625d325439ce7bfccddcab995b2e1ffaabc6a5a5ae70a", func := "loop.example/cothreads/laws.FnExactJumpTarget", spec := "fnExactJumpTarget", apart := false, narrowed := true }
def FnExactJumpTargetUptoSaid : Prop := fnExactJumpTargetUptoRow.holds Try.pinned (OpenSpec.upto fnExactJumpTargetSpec)

/-- 'laws.FnSets', WHERE WHAT IT READS IS OF BULK AT MOST 1048576: true; the input reads as it did. -/
def fnSetsUptoRow : OpenClaim := { program := "ytoehlgcahiaoeaa", sum := "7ff5f39d1205441ee69625d325439ce7bfccddcab995b2e1ffaabc6a5a5ae70a", func := "loop.example/cothreads/laws.FnSets", spec := "fnSets", apart := false, narrowed := true }
def FnSetsUptoSaid : Prop := fnSetsUptoRow.holds Try.pinned (OpenSpec.upto fnSetsSpec)

/-- 'laws.FnExactCompileExpr', WHERE WHAT IT READS IS OF BULK AT MOST 1048576: true; the input reads as it did. -/
def fnExactCompileExprUptoRow : OpenClaim := { program := "ytoehlgcahiaoeaa", sum := "7ff5f39d1205441ee69625d325439ce7bfccddcab995b2e1ffaabc6a5a5ae70a", func := "loop.example/cothreads/laws.FnExactCompileExpr", spec := "fnExactCompileExpr", recurses := true, loops := true, apart := false, narrowed := true }
def FnExactCompileExprUptoSaid : Prop := fnExactCompileExprUptoRow.holds Try.pinned (OpenSpec.upto fnExactCompileExprSpec)

/-- 'laws.FnUses', WHERE WHAT IT READS IS OF BULK AT MOST 1048576: true; the input reads as it did. -/
def fnUsesUptoRow : OpenClaim := { program := "ytoehlgcahiaoeaa", sum := "7ff5f39d1205441ee69625d325439ce7bfccddcab995b2e1ffaabc6a5a5ae70a", func := "loop.example/cothreads/laws.FnUses", spec := "fnUses", apart := false, narrowed := true }
def FnUsesUptoSaid : Prop := fnUsesUptoRow.holds Try.pinned (OpenSpec.upto fnUsesSpec)

end Rows
end Go.Proofs.Ytoehlgcahiaoeaa
