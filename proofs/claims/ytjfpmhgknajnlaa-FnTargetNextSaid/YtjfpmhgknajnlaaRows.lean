/-
  No cell of these rows narrows 'for every input' (looked for: loops, veiled, ifaces, maps, wideKeys, modest, calm, conditions, laid).
  DERIVED. THE GIVEN ROWS OF THIS SEAT. 7 by the template 'for every input the law returns true; each argument reads behind the call as it read before'; 0 by the template 'total and deterministic' (their statements: YtjfpmhgknajnlaaTotals.lean).
  GIVEN WITH THE SEED: the statements are not yours to turn. If you find one false, say at which input.
  Laid BY PROGRAM, IN A SANDBOX (cutbox-rows.mjs): the forced cells as the released guide's own fill.sh prints them over the translation f3eb17f9c00427d3… (all of the seat's roots in one cut). By AI agents, Wed Nov 11 2026. No macro, syntax, notation, axiom, sorry.
-/
import Derived.Test.YtjfpmhgknajnlaaChecked
import GoSem.Claim
import GoSem.ClaimJoined
import GoSem.ClaimMapViews
import Derived.JoinedTies
import Derived.KernelRfl
namespace Go.Proofs.Ytjfpmhgknajnlaa
/- THE CELL 'sum', in the pinned program and in every row, IS THE sha256 OF THE DUMP (.gsa) THAT YtjfpmhgknajnlaaProg.lean LOADS. Nothing in Lean hashes anything: it is a label: what it is worth is what the hold of that sum in a sandbox is worth. -/
noncomputable def Try.pinned : Pinned := { name := "ytjfpmhgknajnlaa", sum := "f3eb17f9c00427d35e4c8063eaef881656cb05fef29376e4349f9346919a6995", checked := Try.checked }
namespace Rows
def none {H : Type} : Left H := { results := [], args := [] }

/-- 'laws.FnCode': WHATEVER THE INPUT: true; the input reads as it did. -/
def fnCodeSpec : ChangeSpec := { name := "fnCode", fn := fun _ => fun
  | [d] => { results := [.lit (.bool true)], args := [d] }
  | _ => none }
def fnCodeRow : OpenClaim := { program := "ytjfpmhgknajnlaa", sum := "f3eb17f9c00427d35e4c8063eaef881656cb05fef29376e4349f9346919a6995", func := "loop.example/cothreads/laws.FnCode", spec := "fnCode", recurses := true, apart := false }
def FnCodeSaid : Prop := fnCodeRow.holds Try.pinned (OpenSpec.ofChange fnCodeSpec)

/-- ITS FALSE NEIGHBOUR: 'it returns false'. Refute it at one input. -/
def fnCodeWrong : ChangeSpec := { name := "fnCode", fn := fun _ => fun
  | [d] => { results := [.lit (.bool false)], args := [d] }
  | _ => none }
def FnCodeWrongFalsely : Prop := fnCodeRow.holds Try.pinned (OpenSpec.ofChange fnCodeWrong)

/-- 'laws.FnCodeAny': WHATEVER THE INPUT: true; the input reads as it did. -/
def fnCodeAnySpec : ChangeSpec := { name := "fnCodeAny", fn := fun _ => fun
  | [d1, d2] => { results := [.lit (.bool true)], args := [d1, d2] }
  | _ => none }
def fnCodeAnyRow : OpenClaim := { program := "ytjfpmhgknajnlaa", sum := "f3eb17f9c00427d35e4c8063eaef881656cb05fef29376e4349f9346919a6995", func := "loop.example/cothreads/laws.FnCodeAny", spec := "fnCodeAny", recurses := true, apart := false }
def FnCodeAnySaid : Prop := fnCodeAnyRow.holds Try.pinned (OpenSpec.ofChange fnCodeAnySpec)

/-- ITS FALSE NEIGHBOUR: 'it returns false'. Refute it at one input. -/
def fnCodeAnyWrong : ChangeSpec := { name := "fnCodeAny", fn := fun _ => fun
  | [d1, d2] => { results := [.lit (.bool false)], args := [d1, d2] }
  | _ => none }
def FnCodeAnyWrongFalsely : Prop := fnCodeAnyRow.holds Try.pinned (OpenSpec.ofChange fnCodeAnyWrong)

/-- 'laws.FnCodeQuads': WHATEVER THE INPUT: true; the input reads as it did. -/
def fnCodeQuadsSpec : ChangeSpec := { name := "fnCodeQuads", fn := fun _ => fun
  | [d] => { results := [.lit (.bool true)], args := [d] }
  | _ => none }
def fnCodeQuadsRow : OpenClaim := { program := "ytjfpmhgknajnlaa", sum := "f3eb17f9c00427d35e4c8063eaef881656cb05fef29376e4349f9346919a6995", func := "loop.example/cothreads/laws.FnCodeQuads", spec := "fnCodeQuads", recurses := true, apart := false }
def FnCodeQuadsSaid : Prop := fnCodeQuadsRow.holds Try.pinned (OpenSpec.ofChange fnCodeQuadsSpec)

/-- ITS FALSE NEIGHBOUR: 'it returns false'. Refute it at one input. -/
def fnCodeQuadsWrong : ChangeSpec := { name := "fnCodeQuads", fn := fun _ => fun
  | [d] => { results := [.lit (.bool false)], args := [d] }
  | _ => none }
def FnCodeQuadsWrongFalsely : Prop := fnCodeQuadsRow.holds Try.pinned (OpenSpec.ofChange fnCodeQuadsWrong)

/-- 'laws.FnTarget': WHATEVER THE INPUT: true; the input reads as it did. -/
def fnTargetSpec : ChangeSpec := { name := "fnTarget", fn := fun _ => fun
  | [d] => { results := [.lit (.bool true)], args := [d] }
  | _ => none }
def fnTargetRow : OpenClaim := { program := "ytjfpmhgknajnlaa", sum := "f3eb17f9c00427d35e4c8063eaef881656cb05fef29376e4349f9346919a6995", func := "loop.example/cothreads/laws.FnTarget", spec := "fnTarget", recurses := true, apart := false }
def FnTargetSaid : Prop := fnTargetRow.holds Try.pinned (OpenSpec.ofChange fnTargetSpec)

/-- ITS FALSE NEIGHBOUR: 'it returns false'. Refute it at one input. -/
def fnTargetWrong : ChangeSpec := { name := "fnTarget", fn := fun _ => fun
  | [d] => { results := [.lit (.bool false)], args := [d] }
  | _ => none }
def FnTargetWrongFalsely : Prop := fnTargetRow.holds Try.pinned (OpenSpec.ofChange fnTargetWrong)

/-- 'laws.FnTargetCycle': WHATEVER THE INPUT: true; the input reads as it did. -/
def fnTargetCycleSpec : ChangeSpec := { name := "fnTargetCycle", fn := fun _ => fun
  | [d] => { results := [.lit (.bool true)], args := [d] }
  | _ => none }
def fnTargetCycleRow : OpenClaim := { program := "ytjfpmhgknajnlaa", sum := "f3eb17f9c00427d35e4c8063eaef881656cb05fef29376e4349f9346919a6995", func := "loop.example/cothreads/laws.FnTargetCycle", spec := "fnTargetCycle", recurses := true, apart := false }
def FnTargetCycleSaid : Prop := fnTargetCycleRow.holds Try.pinned (OpenSpec.ofChange fnTargetCycleSpec)

/-- ITS FALSE NEIGHBOUR: 'it returns false'. Refute it at one input. -/
def fnTargetCycleWrong : ChangeSpec := { name := "fnTargetCycle", fn := fun _ => fun
  | [d] => { results := [.lit (.bool false)], args := [d] }
  | _ => none }
def FnTargetCycleWrongFalsely : Prop := fnTargetCycleRow.holds Try.pinned (OpenSpec.ofChange fnTargetCycleWrong)

/-- 'laws.FnTargetNext': WHATEVER THE INPUT: true; the input reads as it did. -/
def fnTargetNextSpec : ChangeSpec := { name := "fnTargetNext", fn := fun _ => fun
  | [d] => { results := [.lit (.bool true)], args := [d] }
  | _ => none }
def fnTargetNextRow : OpenClaim := { program := "ytjfpmhgknajnlaa", sum := "f3eb17f9c00427d35e4c8063eaef881656cb05fef29376e4349f9346919a6995", func := "loop.example/cothreads/laws.FnTargetNext", spec := "fnTargetNext", recurses := true, apart := false }
def FnTargetNextSaid : Prop := fnTargetNextRow.holds Try.pinned (OpenSpec.ofChange fnTargetNextSpec)

/-- ITS FALSE NEIGHBOUR: 'it returns false'. Refute it at one input. -/
def fnTargetNextWrong : ChangeSpec := { name := "fnTargetNext", fn := fun _ => fun
  | [d] => { results := [.lit (.bool false)], args := [d] }
  | _ => none }
def FnTargetNextWrongFalsely : Prop := fnTargetNextRow.holds Try.pinned (OpenSpec.ofChange fnTargetNextWrong)

/-- 'laws.FnReach': WHATEVER THE INPUT: true; the input reads as it did. -/
def fnReachSpec : ChangeSpec := { name := "fnReach", fn := fun _ => fun
  | [d] => { results := [.lit (.bool true)], args := [d] }
  | _ => none }
def fnReachRow : OpenClaim := { program := "ytjfpmhgknajnlaa", sum := "f3eb17f9c00427d35e4c8063eaef881656cb05fef29376e4349f9346919a6995", func := "loop.example/cothreads/laws.FnReach", spec := "fnReach", recurses := true, apart := false }
def FnReachSaid : Prop := fnReachRow.holds Try.pinned (OpenSpec.ofChange fnReachSpec)

/-- ITS FALSE NEIGHBOUR: 'it returns false'. Refute it at one input. -/
def fnReachWrong : ChangeSpec := { name := "fnReach", fn := fun _ => fun
  | [d] => { results := [.lit (.bool false)], args := [d] }
  | _ => none }
def FnReachWrongFalsely : Prop := fnReachRow.holds Try.pinned (OpenSpec.ofChange fnReachWrong)

/- THE SECOND FORM. 'bulk': how many values and letters a reading holds, each counted each time it is reached (what is shared counts as often as it is met; a slice's spare places count too). A statement '..UptoSaid' is the law's where the arguments, and the package variables that the reading takes, are together of bulk at most 1048576: NARROWER than '..Said'. Prove '..Said' where nothing that the law and all that it calls make is longer than what came in: it says more and counts as full. Else prove '..UptoSaid'. A law counts once. -/
mutual
def uptoBulk {H : Type} : DataW H → Nat
  | .lit (.string bytes) => bytes.length + 1
  | .lit _ => 1
  | .nil => 1
  | .ptr d => uptoBulk d + 1
  | .slice elems spare => uptoBulkAll elems + uptoBulkAll spare + 1
  | .agg parts => uptoBulkAll parts + 1
  | .iface _ d => uptoBulk d + 1
  | .map entries => uptoBulkEntries entries + 1
  | .held _ => 1
def uptoBulkAll {H : Type} : List (DataW H) → Nat
  | [] => 0
  | d :: r => uptoBulk d + uptoBulkAll r
def uptoBulkEntries {H : Type} : List (Lit × DataW H) → Nat
  | [] => 0
  | x :: r => uptoBulkEntry x + uptoBulkEntries r
def uptoBulkEntry {H : Type} : Lit × DataW H → Nat
  | (.string bytes, d) => bytes.length + uptoBulk d + 1
  | (_, d) => uptoBulk d + 1
 end
def uptoSmall : (H : Type) → List (DataW H) → Bool := fun _ ds => decide (uptoBulkAll ds ≤ 1048576)
def OpenSpec.upto (s : _root_.Go.ChangeSpec) : _root_.Go.OpenSpec := { _root_.Go.OpenSpec.ofChange s with cond := some uptoSmall }

/-- 'laws.FnCode', WHERE WHAT IT READS IS OF BULK AT MOST 1048576: true; the input reads as it did. -/
def fnCodeUptoRow : OpenClaim := { program := "ytjfpmhgknajnlaa", sum := "f3eb17f9c00427d35e4c8063eaef881656cb05fef29376e4349f9346919a6995", func := "loop.example/cothreads/laws.FnCode", spec := "fnCode", recurses := true, apart := false, narrowed := true }
def FnCodeUptoSaid : Prop := fnCodeUptoRow.holds Try.pinned (OpenSpec.upto fnCodeSpec)

/-- 'laws.FnCodeAny', WHERE WHAT IT READS IS OF BULK AT MOST 1048576: true; the input reads as it did. -/
def fnCodeAnyUptoRow : OpenClaim := { program := "ytjfpmhgknajnlaa", sum := "f3eb17f9c00427d35e4c8063eaef881656cb05fef29376e4349f9346919a6995", func := "loop.example/cothreads/laws.FnCodeAny", spec := "fnCodeAny", recurses := true, apart := false, narrowed := true }
def FnCodeAnyUptoSaid : Prop := fnCodeAnyUptoRow.holds Try.pinned (OpenSpec.upto fnCodeAnySpec)

/-- 'laws.FnCodeQuads', WHERE WHAT IT READS IS OF BULK AT MOST 1048576: true; the input reads as it did. -/
def fnCodeQuadsUptoRow : OpenClaim := { program := "ytjfpmhgknajnlaa", sum := "f3eb17f9c00427d35e4c8063eaef881656cb05fef29376e4349f9346919a6995", func := "loop.example/cothreads/laws.FnCodeQuads", spec := "fnCodeQuads", recurses := true, apart := false, narrowed := true }
def FnCodeQuadsUptoSaid : Prop := fnCodeQuadsUptoRow.holds Try.pinned (OpenSpec.upto fnCodeQuadsSpec)

/-- 'laws.FnTarget', WHERE WHAT IT READS IS OF BULK AT MOST 1048576: true; the input reads as it did. -/
def fnTargetUptoRow : OpenClaim := { program := "ytjfpmhgknajnlaa", sum := "f3eb17f9c00427d35e4c8063eaef881656cb05fef29376e4349f9346919a6995", func := "loop.example/cothreads/laws.FnTarget", spec := "fnTarget", recurses := true, apart := false, narrowed := true }
def FnTargetUptoSaid : Prop := fnTargetUptoRow.holds Try.pinned (OpenSpec.upto fnTargetSpec)

/-- 'laws.FnTargetCycle', WHERE WHAT IT READS IS OF BULK AT MOST 1048576: true; the input reads as it did. -/
def fnTargetCycleUptoRow : OpenClaim := { program := "ytjfpmhgknajnlaa", sum := "f3eb17f9c00427d35e4c8063eaef881656cb05fef29376e4349f9346919a6995", func := "loop.example/cothreads/laws.FnTargetCycle", spec := "fnTargetCycle", recurses := true, apart := false, narrowed := true }
def FnTargetCycleUptoSaid : Prop := fnTargetCycleUptoRow.holds Try.pinned (OpenSpec.upto fnTargetCycleSpec)

/-- 'laws.FnTargetNext', WHERE WHAT IT READS IS OF BULK AT MOST 1048576: true; the input reads as it did. -/
def fnTargetNextUptoRow : OpenClaim := { program := "ytjfpmhgknajnlaa", sum := "f3eb17f9c00427d35e4c8063eaef881656cb05fef29376e4349f9346919a6995", func := "loop.example/cothreads/laws.FnTargetNext", spec := "fnTargetNext", recurses := true, apart := false, narrowed := true }
def FnTargetNextUptoSaid : Prop := fnTargetNextUptoRow.holds Try.pinned (OpenSpec.upto fnTargetNextSpec)

/-- 'laws.FnReach', WHERE WHAT IT READS IS OF BULK AT MOST 1048576: true; the input reads as it did. -/
def fnReachUptoRow : OpenClaim := { program := "ytjfpmhgknajnlaa", sum := "f3eb17f9c00427d35e4c8063eaef881656cb05fef29376e4349f9346919a6995", func := "loop.example/cothreads/laws.FnReach", spec := "fnReach", recurses := true, apart := false, narrowed := true }
def FnReachUptoSaid : Prop := fnReachUptoRow.holds Try.pinned (OpenSpec.upto fnReachSpec)

end Rows
end Go.Proofs.Ytjfpmhgknajnlaa
