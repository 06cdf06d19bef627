/-
  NARROWER THAN 'FOR EVERY INPUT', by the rows' own cells (each row's printed sentence says how): FnExactCompileSize: loops · FnExactCompileTask: loops · FnExactCompileProgram: loops.
  DERIVED. THE GIVEN ROWS OF THIS SEAT. 9 by the template 'for every input the law returns true; each argument reads behind the call as it read before'; 0 by the template 'total and deterministic' (their statements: YtfjhjfddgdokgaaTotals.lean).
  GIVEN WITH THE SEED: the statements are not yours to turn. If you find one false, say at which input.
  Laid BY PROGRAM, IN A SANDBOX (cutbox-rows.mjs): the forced cells as the released guide's own fill.sh prints them over the translation 3975fe4f8ce5b117… (all of the seat's roots in one cut). By AI agents, Wed Nov 11 2026. No macro, syntax, notation, axiom, sorry.
-/
import Derived.Test.YtfjhjfddgdokgaaChecked
import GoSem.Claim
import GoSem.ClaimJoined
import GoSem.ClaimMapViews
import Derived.JoinedTies
import Derived.KernelRfl
namespace Go.Proofs.Ytfjhjfddgdokgaa
/- THE CELL 'sum', in the pinned program and in every row, IS THE sha256 OF THE DUMP (.gsa) THAT YtfjhjfddgdokgaaProg.lean LOADS. Nothing in Lean hashes anything: it is a label: what it is worth is what the hold of that sum in a sandbox is worth. -/
noncomputable def Try.pinned : Pinned := { name := "ytfjhjfddgdokgaa", sum := "3975fe4f8ce5b117cc679203e627c9c4b74b21c75ba33781bf82ac353dc0d896", checked := Try.checked }
namespace Rows
def none {H : Type} : Left H := { results := [], args := [] }

/-- 'laws.FnExactCompileSize': WHATEVER THE INPUT: true; the input reads as it did. -/
def fnExactCompileSizeSpec : ChangeSpec := { name := "fnExactCompileSize", fn := fun _ => fun
  | [d] => { results := [.lit (.bool true)], args := [d] }
  | _ => none }
def fnExactCompileSizeRow : OpenClaim := { program := "ytfjhjfddgdokgaa", sum := "3975fe4f8ce5b117cc679203e627c9c4b74b21c75ba33781bf82ac353dc0d896", func := "loop.example/cothreads/laws.FnExactCompileSize", spec := "fnExactCompileSize", unfollowed := true, recurses := true, loops := true, apart := false }
def FnExactCompileSizeSaid : Prop := fnExactCompileSizeRow.holds Try.pinned (OpenSpec.ofChange fnExactCompileSizeSpec)

/-- ITS FALSE NEIGHBOUR: 'it returns false'. Refute it at one input. -/
def fnExactCompileSizeWrong : ChangeSpec := { name := "fnExactCompileSize", fn := fun _ => fun
  | [d] => { results := [.lit (.bool false)], args := [d] }
  | _ => none }
def FnExactCompileSizeWrongFalsely : Prop := fnExactCompileSizeRow.holds Try.pinned (OpenSpec.ofChange fnExactCompileSizeWrong)

/-- 'laws.FnExactCompileTask': WHATEVER THE INPUT: true; the input reads as it did. -/
def fnExactCompileTaskSpec : ChangeSpec := { name := "fnExactCompileTask", fn := fun _ => fun
  | [d] => { results := [.lit (.bool true)], args := [d] }
  | _ => none }
def fnExactCompileTaskRow : OpenClaim := { program := "ytfjhjfddgdokgaa", sum := "3975fe4f8ce5b117cc679203e627c9c4b74b21c75ba33781bf82ac353dc0d896", func := "loop.example/cothreads/laws.FnExactCompileTask", spec := "fnExactCompileTask", unfollowed := true, recurses := true, loops := true, apart := false }
def FnExactCompileTaskSaid : Prop := fnExactCompileTaskRow.holds Try.pinned (OpenSpec.ofChange fnExactCompileTaskSpec)

/-- ITS FALSE NEIGHBOUR: 'it returns false'. Refute it at one input. -/
def fnExactCompileTaskWrong : ChangeSpec := { name := "fnExactCompileTask", fn := fun _ => fun
  | [d] => { results := [.lit (.bool false)], args := [d] }
  | _ => none }
def FnExactCompileTaskWrongFalsely : Prop := fnExactCompileTaskRow.holds Try.pinned (OpenSpec.ofChange fnExactCompileTaskWrong)

/-- 'laws.FnExactCompileProgram': WHATEVER THE INPUT: true; the input reads as it did. -/
def fnExactCompileProgramSpec : ChangeSpec := { name := "fnExactCompileProgram", fn := fun _ => fun
  | [d] => { results := [.lit (.bool true)], args := [d] }
  | _ => none }
def fnExactCompileProgramRow : OpenClaim := { program := "ytfjhjfddgdokgaa", sum := "3975fe4f8ce5b117cc679203e627c9c4b74b21c75ba33781bf82ac353dc0d896", func := "loop.example/cothreads/laws.FnExactCompileProgram", spec := "fnExactCompileProgram", unfollowed := true, recurses := true, loops := true, apart := false }
def FnExactCompileProgramSaid : Prop := fnExactCompileProgramRow.holds Try.pinned (OpenSpec.ofChange fnExactCompileProgramSpec)

/-- ITS FALSE NEIGHBOUR: 'it returns false'. Refute it at one input. -/
def fnExactCompileProgramWrong : ChangeSpec := { name := "fnExactCompileProgram", fn := fun _ => fun
  | [d] => { results := [.lit (.bool false)], args := [d] }
  | _ => none }
def FnExactCompileProgramWrongFalsely : Prop := fnExactCompileProgramRow.holds Try.pinned (OpenSpec.ofChange fnExactCompileProgramWrong)

/-- 'laws.FnExactCrewValid': WHATEVER THE INPUT: true; the input reads as it did. -/
def fnExactCrewValidSpec : ChangeSpec := { name := "fnExactCrewValid", fn := fun _ => fun
  | [d] => { results := [.lit (.bool true)], args := [d] }
  | _ => none }
def fnExactCrewValidRow : OpenClaim := { program := "ytfjhjfddgdokgaa", sum := "3975fe4f8ce5b117cc679203e627c9c4b74b21c75ba33781bf82ac353dc0d896", func := "loop.example/cothreads/laws.FnExactCrewValid", spec := "fnExactCrewValid", apart := false }
def FnExactCrewValidSaid : Prop := fnExactCrewValidRow.holds Try.pinned (OpenSpec.ofChange fnExactCrewValidSpec)

/-- ITS FALSE NEIGHBOUR: 'it returns false'. Refute it at one input. -/
def fnExactCrewValidWrong : ChangeSpec := { name := "fnExactCrewValid", fn := fun _ => fun
  | [d] => { results := [.lit (.bool false)], args := [d] }
  | _ => none }
def FnExactCrewValidWrongFalsely : Prop := fnExactCrewValidRow.holds Try.pinned (OpenSpec.ofChange fnExactCrewValidWrong)

/-- 'laws.FnExactCrewNew': WHATEVER THE INPUT: true; the input reads as it did. -/
def fnExactCrewNewSpec : ChangeSpec := { name := "fnExactCrewNew", fn := fun _ => fun
  | [d1, d2] => { results := [.lit (.bool true)], args := [d1, d2] }
  | _ => none }
def fnExactCrewNewRow : OpenClaim := { program := "ytfjhjfddgdokgaa", sum := "3975fe4f8ce5b117cc679203e627c9c4b74b21c75ba33781bf82ac353dc0d896", func := "loop.example/cothreads/laws.FnExactCrewNew", spec := "fnExactCrewNew", apart := false }
def FnExactCrewNewSaid : Prop := fnExactCrewNewRow.holds Try.pinned (OpenSpec.ofChange fnExactCrewNewSpec)

/-- ITS FALSE NEIGHBOUR: 'it returns false'. Refute it at one input. -/
def fnExactCrewNewWrong : ChangeSpec := { name := "fnExactCrewNew", fn := fun _ => fun
  | [d1, d2] => { results := [.lit (.bool false)], args := [d1, d2] }
  | _ => none }
def FnExactCrewNewWrongFalsely : Prop := fnExactCrewNewRow.holds Try.pinned (OpenSpec.ofChange fnExactCrewNewWrong)

/-- 'laws.FnExactCrewOutcome': WHATEVER THE INPUT: true; the input reads as it did. -/
def fnExactCrewOutcomeSpec : ChangeSpec := { name := "fnExactCrewOutcome", fn := fun _ => fun
  | [d] => { results := [.lit (.bool true)], args := [d] }
  | _ => none }
def fnExactCrewOutcomeRow : OpenClaim := { program := "ytfjhjfddgdokgaa", sum := "3975fe4f8ce5b117cc679203e627c9c4b74b21c75ba33781bf82ac353dc0d896", func := "loop.example/cothreads/laws.FnExactCrewOutcome", spec := "fnExactCrewOutcome", apart := false }
def FnExactCrewOutcomeSaid : Prop := fnExactCrewOutcomeRow.holds Try.pinned (OpenSpec.ofChange fnExactCrewOutcomeSpec)

/-- ITS FALSE NEIGHBOUR: 'it returns false'. Refute it at one input. -/
def fnExactCrewOutcomeWrong : ChangeSpec := { name := "fnExactCrewOutcome", fn := fun _ => fun
  | [d] => { results := [.lit (.bool false)], args := [d] }
  | _ => none }
def FnExactCrewOutcomeWrongFalsely : Prop := fnExactCrewOutcomeRow.holds Try.pinned (OpenSpec.ofChange fnExactCrewOutcomeWrong)

/-- 'laws.FnExactFactsOf': WHATEVER THE INPUT: true; the input reads as it did. -/
def fnExactFactsOfSpec : ChangeSpec := { name := "fnExactFactsOf", fn := fun _ => fun
  | [d] => { results := [.lit (.bool true)], args := [d] }
  | _ => none }
def fnExactFactsOfRow : OpenClaim := { program := "ytfjhjfddgdokgaa", sum := "3975fe4f8ce5b117cc679203e627c9c4b74b21c75ba33781bf82ac353dc0d896", func := "loop.example/cothreads/laws.FnExactFactsOf", spec := "fnExactFactsOf", apart := false }
def FnExactFactsOfSaid : Prop := fnExactFactsOfRow.holds Try.pinned (OpenSpec.ofChange fnExactFactsOfSpec)

/-- ITS FALSE NEIGHBOUR: 'it returns false'. Refute it at one input. -/
def fnExactFactsOfWrong : ChangeSpec := { name := "fnExactFactsOf", fn := fun _ => fun
  | [d] => { results := [.lit (.bool false)], args := [d] }
  | _ => none }
def FnExactFactsOfWrongFalsely : Prop := fnExactFactsOfRow.holds Try.pinned (OpenSpec.ofChange fnExactFactsOfWrong)

/-- 'laws.FnExactFoldCode': WHATEVER THE INPUT: true; the input reads as it did. -/
def fnExactFoldCodeSpec : ChangeSpec := { name := "fnExactFoldCode", fn := fun _ => fun
  | [d] => { results := [.lit (.bool true)], args := [d] }
  | _ => none }
def fnExactFoldCodeRow : OpenClaim := { program := "ytfjhjfddgdokgaa", sum := "3975fe4f8ce5b117cc679203e627c9c4b74b21c75ba33781bf82ac353dc0d896", func := "loop.example/cothreads/laws.FnExactFoldCode", spec := "fnExactFoldCode", unfollowed := true, recurses := true, apart := false }
def FnExactFoldCodeSaid : Prop := fnExactFoldCodeRow.holds Try.pinned (OpenSpec.ofChange fnExactFoldCodeSpec)

/-- ITS FALSE NEIGHBOUR: 'it returns false'. Refute it at one input. -/
def fnExactFoldCodeWrong : ChangeSpec := { name := "fnExactFoldCode", fn := fun _ => fun
  | [d] => { results := [.lit (.bool false)], args := [d] }
  | _ => none }
def FnExactFoldCodeWrongFalsely : Prop := fnExactFoldCodeRow.holds Try.pinned (OpenSpec.ofChange fnExactFoldCodeWrong)

/-- 'laws.FnExactCopiesOf': WHATEVER THE INPUT: true; the input reads as it did. -/
def fnExactCopiesOfSpec : ChangeSpec := { name := "fnExactCopiesOf", fn := fun _ => fun
  | [d] => { results := [.lit (.bool true)], args := [d] }
  | _ => none }
def fnExactCopiesOfRow : OpenClaim := { program := "ytfjhjfddgdokgaa", sum := "3975fe4f8ce5b117cc679203e627c9c4b74b21c75ba33781bf82ac353dc0d896", func := "loop.example/cothreads/laws.FnExactCopiesOf", spec := "fnExactCopiesOf", apart := false }
def FnExactCopiesOfSaid : Prop := fnExactCopiesOfRow.holds Try.pinned (OpenSpec.ofChange fnExactCopiesOfSpec)

/-- ITS FALSE NEIGHBOUR: 'it returns false'. Refute it at one input. -/
def fnExactCopiesOfWrong : ChangeSpec := { name := "fnExactCopiesOf", fn := fun _ => fun
  | [d] => { results := [.lit (.bool false)], args := [d] }
  | _ => none }
def FnExactCopiesOfWrongFalsely : Prop := fnExactCopiesOfRow.holds Try.pinned (OpenSpec.ofChange fnExactCopiesOfWrong)

/- THE SECOND FORM. 'bulk': how many values and letters a reading holds, each counted each time it is reached (what is shared counts as often as it is met; a slice's spare places count too). A statement '..UptoSaid' is the law's where the arguments, and the package variables that the reading takes, are together of bulk at most 1048576: NARROWER than '..Said'. Prove '..Said' where nothing that the law and all that it calls make is longer than what came in: it says more and counts as full. Else prove '..UptoSaid'. A law counts once. -/
mutual
def uptoBulk {H : Type} : DataW H → Nat
  | .lit (.string bytes) => bytes.length + 1
  | .lit _ => 1
  | .nil => 1
  | .ptr d => uptoBulk d + 1
  | .slice elems spare => uptoBulkAll elems + uptoBulkAll spare + 1
  | .agg parts => uptoBulkAll parts + 1
  | .iface _ d => uptoBulk d + 1
  | .map entries => uptoBulkEntries entries + 1
  | .held _ => 1
def uptoBulkAll {H : Type} : List (DataW H) → Nat
  | [] => 0
  | d :: r => uptoBulk d + uptoBulkAll r
def uptoBulkEntries {H : Type} : List (Lit × DataW H) → Nat
  | [] => 0
  | x :: r => uptoBulkEntry x + uptoBulkEntries r
def uptoBulkEntry {H : Type} : Lit × DataW H → Nat
  | (.string bytes, d) => bytes.length + uptoBulk d + 1
  | (_, d) => uptoBulk d + 1
 end
def uptoSmall : (H : Type) → List (DataW H) → Bool := fun _ ds => decide (uptoBulkAll ds ≤ 1048576)
def OpenSpec.upto (s : _root_.Go.ChangeSpec) : _root_.Go.OpenSpec := { _root_.Go.OpenSpec.ofChange s with cond := some uptoSmall }

/-- 'laws.FnExactCompileSize', WHERE WHAT IT READS IS OF BULK AT MOST 1048576: true; the input reads as it did. -/
def fnExactCompileSizeUptoRow : OpenClaim := { program := "ytfjhjfddgdokgaa", sum := "3975fe4f8ce5b117cc679203e627c9c4b74b21c75ba33781bf82ac353dc0d896", func := "loop.example/cothreads/laws.FnExactCompileSize", spec := "fnExactCompileSize", unfollowed := true, recurses := true, loops := true, apart := false, narrowed := true }
def FnExactCompileSizeUptoSaid : Prop := fnExactCompileSizeUptoRow.holds Try.pinned (OpenSpec.upto fnExactCompileSizeSpec)

/-- 'laws.FnExactCompileTask', WHERE WHAT IT READS IS OF BULK AT MOST 1048576: true; the input reads as it did. -/
def fnExactCompileTaskUptoRow : OpenClaim := { program := "ytfjhjfddgdokgaa", sum := "3975fe4f8ce5b117cc679203e627c9c4b74b21c75ba33781bf82ac353dc0d896", func := "loop.example/cothreads/laws.FnExactCompileTask", spec := "fnExactCompileTask", unfollowed := true, recurses := true, loops := true, apart := false, narrowed := true }
def FnExactCompileTaskUptoSaid : Prop := fnExactCompileTaskUptoRow.holds Try.pinned (OpenSpec.upto fnExactCompileTaskSpec)

/-- 'laws.FnExactCompileProgram', WHERE WHAT IT READS IS OF BULK AT MOST 1048576: true; the input reads as it did. -/
def fnExactCompileProgramUptoRow : OpenClaim := { program := "ytfjhjfddgdokgaa", sum := "3975fe4f8ce5b117cc679203e627c9c4b74b21c75ba33781bf82ac353dc0d896", func := "loop.example/cothreads/laws.FnExactCompileProgram", spec := "fnExactCompileProgram", unfollowed := true, recurses := true, loops := true, apart := false, narrowed := true }
def FnExactCompileProgramUptoSaid : Prop := fnExactCompileProgramUptoRow.holds Try.pinned (OpenSpec.upto fnExactCompileProgramSpec)

/-- 'laws.FnExactCrewValid', WHERE WHAT IT READS IS OF BULK AT MOST 1048576: true; the input reads as it did. -/
def fnExactCrewValidUptoRow : OpenClaim := { program := "ytfjhjfddgdokgaa", sum := "3975fe4f8ce5b117cc679203e627c9c4b74b21c75ba33781bf82ac353dc0d896", func := "loop.example/cothreads/laws.FnExactCrewValid", spec := "fnExactCrewValid", apart := false, narrowed := true }
def FnExactCrewValidUptoSaid : Prop := fnExactCrewValidUptoRow.holds Try.pinned (OpenSpec.upto fnExactCrewValidSpec)

/-- 'laws.FnExactCrewNew', WHERE WHAT IT READS IS OF BULK AT MOST 1048576: true; the input reads as it did. -/
def fnExactCrewNewUptoRow : OpenClaim := { program := "ytfjhjfddgdokgaa", sum := "3975fe4f8ce5b117cc679203e627c9c4b74b21c75ba33781bf82ac353dc0d896", func := "loop.example/cothreads/laws.FnExactCrewNew", spec := "fnExactCrewNew", apart := false, narrowed := true }
def FnExactCrewNewUptoSaid : Prop := fnExactCrewNewUptoRow.holds Try.pinned (OpenSpec.upto fnExactCrewNewSpec)

/-- 'laws.FnExactCrewOutcome', WHERE WHAT IT READS IS OF BULK AT MOST 1048576: true; the input reads as it did. -/
def fnExactCrewOutcomeUptoRow : OpenClaim := { program := "ytfjhjfddgdokgaa", sum := "3975fe4f8ce5b117cc679203e627c9c4b74b21c75ba33781bf82ac353dc0d896", func := "loop.example/cothreads/laws.FnExactCrewOutcome", spec := "fnExactCrewOutcome", apart := false, narrowed := true }
def FnExactCrewOutcomeUptoSaid : Prop := fnExactCrewOutcomeUptoRow.holds Try.pinned (OpenSpec.upto fnExactCrewOutcomeSpec)

/-- 'laws.FnExactFactsOf', WHERE WHAT IT READS IS OF BULK AT MOST 1048576: true; the input reads as it did. -/
def fnExactFactsOfUptoRow : OpenClaim := { program := "ytfjhjfddgdokgaa", sum := "3975fe4f8ce5b117cc679203e627c9c4b74b21c75ba33781bf82ac353dc0d896", func := "loop.example/cothreads/laws.FnExactFactsOf", spec := "fnExactFactsOf", apart := false, narrowed := true }
def FnExactFactsOfUptoSaid : Prop := fnExactFactsOfUptoRow.holds Try.pinned (OpenSpec.upto fnExactFactsOfSpec)

/-- 'laws.FnExactFoldCode', WHERE WHAT IT READS IS OF BULK AT MOST 1048576: true; the input reads as it did. -/
def fnExactFoldCodeUptoRow : OpenClaim := { program := "ytfjhjfddgdokgaa", sum := "3975fe4f8ce5b117cc679203e627c9c4b74b21c75ba33781bf82ac353dc0d896", func := "loop.example/cothreads/laws.FnExactFoldCode", spec := "fnExactFoldCode", unfollowed := true, recurses := true, apart := false, narrowed := true }
def FnExactFoldCodeUptoSaid : Prop := fnExactFoldCodeUptoRow.holds Try.pinned (OpenSpec.upto fnExactFoldCodeSpec)

/-- 'laws.FnExactCopiesOf', WHERE WHAT IT READS IS OF BULK AT MOST 1048576: true; the input reads as it did. -/
def fnExactCopiesOfUptoRow : OpenClaim := { program := "ytfjhjfddgdokgaa", sum := "3975fe4f8ce5b117cc679203e627c9c4b74b21c75ba33781bf82ac353dc0d896", func := "loop.example/cothreads/laws.FnExactCopiesOf", spec := "fnExactCopiesOf", apart := false, narrowed := true }
def FnExactCopiesOfUptoSaid : Prop := fnExactCopiesOfUptoRow.holds Try.pinned (OpenSpec.upto fnExactCopiesOfSpec)

end Rows
end Go.Proofs.Ytfjhjfddgdokgaa
