/-
  No cell of these rows narrows 'for every input' (looked for: loops, veiled, ifaces, maps, wideKeys, modest, calm, conditions, laid).
  DERIVED. THE GIVEN ROWS OF THIS SEAT. 12 by the template 'for every input the law returns true; each argument reads behind the call as it read before'; 0 by the template 'total and deterministic' (their statements: YtncfflpkhjaidaaTotals.lean).
  GIVEN WITH THE SEED: the statements are not yours to turn. If you find one false, say at which input.
  Laid BY PROGRAM, IN A SANDBOX (cutbox-rows.mjs): the forced cells as the released guide's own fill.sh prints them over the translation 3521f7631ed39507… (all of the seat's roots in one cut). By AI agents, Wed Nov 11 2026. No macro, syntax, notation, axiom, sorry.
-/
import Derived.Test.YtncfflpkhjaidaaChecked
import GoSem.Claim
import GoSem.ClaimJoined
import GoSem.ClaimMapViews
import Derived.JoinedTies
import Derived.KernelRfl
namespace Go.Proofs.Ytncfflpkhjaidaa
/- THE CELL 'sum', in the pinned program and in every row, IS THE sha256 OF THE DUMP (.gsa) THAT YtncfflpkhjaidaaProg.lean LOADS. Nothing in Lean hashes anything: it is a label: what it is worth is what the hold of that sum in a sandbox is worth. -/
noncomputable def Try.pinned : Pinned := { name := "ytncfflpkhjaidaa", sum := "3521f7631ed39507c401f984b9007947fc187292bd08a7ad7c48585faebb206d", checked := Try.checked }
namespace Rows
def none {H : Type} : Left H := { results := [], args := [] }

/-- 'laws.FnExactThreadNew': WHATEVER THE INPUT: true; the input reads as it did. -/
def fnExactThreadNewSpec : ChangeSpec := { name := "fnExactThreadNew", fn := fun _ => fun
  | [d] => { results := [.lit (.bool true)], args := [d] }
  | _ => none }
def fnExactThreadNewRow : OpenClaim := { program := "ytncfflpkhjaidaa", sum := "3521f7631ed39507c401f984b9007947fc187292bd08a7ad7c48585faebb206d", func := "loop.example/cothreads/laws.FnExactThreadNew", spec := "fnExactThreadNew", apart := false }
def FnExactThreadNewSaid : Prop := fnExactThreadNewRow.holds Try.pinned (OpenSpec.ofChange fnExactThreadNewSpec)

/-- ITS FALSE NEIGHBOUR: 'it returns false'. Refute it at one input. -/
def fnExactThreadNewWrong : ChangeSpec := { name := "fnExactThreadNew", fn := fun _ => fun
  | [d] => { results := [.lit (.bool false)], args := [d] }
  | _ => none }
def FnExactThreadNewWrongFalsely : Prop := fnExactThreadNewRow.holds Try.pinned (OpenSpec.ofChange fnExactThreadNewWrong)

/-- 'laws.FnExactThreadValid': WHATEVER THE INPUT: true; the input reads as it did. -/
def fnExactThreadValidSpec : ChangeSpec := { name := "fnExactThreadValid", fn := fun _ => fun
  | [d1, d2] => { results := [.lit (.bool true)], args := [d1, d2] }
  | _ => none }
def fnExactThreadValidRow : OpenClaim := { program := "ytncfflpkhjaidaa", sum := "3521f7631ed39507c401f984b9007947fc187292bd08a7ad7c48585faebb206d", func := "loop.example/cothreads/laws.FnExactThreadValid", spec := "fnExactThreadValid", apart := false }
def FnExactThreadValidSaid : Prop := fnExactThreadValidRow.holds Try.pinned (OpenSpec.ofChange fnExactThreadValidSpec)

/-- ITS FALSE NEIGHBOUR: 'it returns false'. Refute it at one input. -/
def fnExactThreadValidWrong : ChangeSpec := { name := "fnExactThreadValid", fn := fun _ => fun
  | [d1, d2] => { results := [.lit (.bool false)], args := [d1, d2] }
  | _ => none }
def FnExactThreadValidWrongFalsely : Prop := fnExactThreadValidRow.holds Try.pinned (OpenSpec.ofChange fnExactThreadValidWrong)

/-- 'laws.FnExactCodeNext': WHATEVER THE INPUT: true; the input reads as it did. -/
def fnExactCodeNextSpec : ChangeSpec := { name := "fnExactCodeNext", fn := fun _ => fun
  | [d1, d2] => { results := [.lit (.bool true)], args := [d1, d2] }
  | _ => none }
def fnExactCodeNextRow : OpenClaim := { program := "ytncfflpkhjaidaa", sum := "3521f7631ed39507c401f984b9007947fc187292bd08a7ad7c48585faebb206d", func := "loop.example/cothreads/laws.FnExactCodeNext", spec := "fnExactCodeNext", apart := false }
def FnExactCodeNextSaid : Prop := fnExactCodeNextRow.holds Try.pinned (OpenSpec.ofChange fnExactCodeNextSpec)

/-- ITS FALSE NEIGHBOUR: 'it returns false'. Refute it at one input. -/
def fnExactCodeNextWrong : ChangeSpec := { name := "fnExactCodeNext", fn := fun _ => fun
  | [d1, d2] => { results := [.lit (.bool false)], args := [d1, d2] }
  | _ => none }
def FnExactCodeNextWrongFalsely : Prop := fnExactCodeNextRow.holds Try.pinned (OpenSpec.ofChange fnExactCodeNextWrong)

/-- 'laws.FnExactJumpCode': WHATEVER THE INPUT: true; the input reads as it did. -/
def fnExactJumpCodeSpec : ChangeSpec := { name := "fnExactJumpCode", fn := fun _ => fun
  | [d] => { results := [.lit (.bool true)], args := [d] }
  | _ => none }
def fnExactJumpCodeRow : OpenClaim := { program := "ytncfflpkhjaidaa", sum := "3521f7631ed39507c401f984b9007947fc187292bd08a7ad7c48585faebb206d", func := "loop.example/cothreads/laws.FnExactJumpCode", spec := "fnExactJumpCode", apart := false }
def FnExactJumpCodeSaid : Prop := fnExactJumpCodeRow.holds Try.pinned (OpenSpec.ofChange fnExactJumpCodeSpec)

/-- ITS FALSE NEIGHBOUR: 'it returns false'. Refute it at one input. -/
def fnExactJumpCodeWrong : ChangeSpec := { name := "fnExactJumpCode", fn := fun _ => fun
  | [d] => { results := [.lit (.bool false)], args := [d] }
  | _ => none }
def FnExactJumpCodeWrongFalsely : Prop := fnExactJumpCodeRow.holds Try.pinned (OpenSpec.ofChange fnExactJumpCodeWrong)

/-- 'laws.FnExactCodeBefore': WHATEVER THE INPUT: true; the input reads as it did. -/
def fnExactCodeBeforeSpec : ChangeSpec := { name := "fnExactCodeBefore", fn := fun _ => fun
  | [d1, d2] => { results := [.lit (.bool true)], args := [d1, d2] }
  | _ => none }
def fnExactCodeBeforeRow : OpenClaim := { program := "ytncfflpkhjaidaa", sum := "3521f7631ed39507c401f984b9007947fc187292bd08a7ad7c48585faebb206d", func := "loop.example/cothreads/laws.FnExactCodeBefore", spec := "fnExactCodeBefore", apart := false }
def FnExactCodeBeforeSaid : Prop := fnExactCodeBeforeRow.holds Try.pinned (OpenSpec.ofChange fnExactCodeBeforeSpec)

/-- ITS FALSE NEIGHBOUR: 'it returns false'. Refute it at one input. -/
def fnExactCodeBeforeWrong : ChangeSpec := { name := "fnExactCodeBefore", fn := fun _ => fun
  | [d1, d2] => { results := [.lit (.bool false)], args := [d1, d2] }
  | _ => none }
def FnExactCodeBeforeWrongFalsely : Prop := fnExactCodeBeforeRow.holds Try.pinned (OpenSpec.ofChange fnExactCodeBeforeWrong)

/-- 'laws.FnExactCodeReach': WHATEVER THE INPUT: true; the input reads as it did. -/
def fnExactCodeReachSpec : ChangeSpec := { name := "fnExactCodeReach", fn := fun _ => fun
  | [d] => { results := [.lit (.bool true)], args := [d] }
  | _ => none }
def fnExactCodeReachRow : OpenClaim := { program := "ytncfflpkhjaidaa", sum := "3521f7631ed39507c401f984b9007947fc187292bd08a7ad7c48585faebb206d", func := "loop.example/cothreads/laws.FnExactCodeReach", spec := "fnExactCodeReach", apart := false }
def FnExactCodeReachSaid : Prop := fnExactCodeReachRow.holds Try.pinned (OpenSpec.ofChange fnExactCodeReachSpec)

/-- ITS FALSE NEIGHBOUR: 'it returns false'. Refute it at one input. -/
def fnExactCodeReachWrong : ChangeSpec := { name := "fnExactCodeReach", fn := fun _ => fun
  | [d] => { results := [.lit (.bool false)], args := [d] }
  | _ => none }
def FnExactCodeReachWrongFalsely : Prop := fnExactCodeReachRow.holds Try.pinned (OpenSpec.ofChange fnExactCodeReachWrong)

/-- 'laws.FnExactSqueezeCode': WHATEVER THE INPUT: true; the input reads as it did. -/
def fnExactSqueezeCodeSpec : ChangeSpec := { name := "fnExactSqueezeCode", fn := fun _ => fun
  | [d] => { results := [.lit (.bool true)], args := [d] }
  | _ => none }
def fnExactSqueezeCodeRow : OpenClaim := { program := "ytncfflpkhjaidaa", sum := "3521f7631ed39507c401f984b9007947fc187292bd08a7ad7c48585faebb206d", func := "loop.example/cothreads/laws.FnExactSqueezeCode", spec := "fnExactSqueezeCode", apart := false }
def FnExactSqueezeCodeSaid : Prop := fnExactSqueezeCodeRow.holds Try.pinned (OpenSpec.ofChange fnExactSqueezeCodeSpec)

/-- ITS FALSE NEIGHBOUR: 'it returns false'. Refute it at one input. -/
def fnExactSqueezeCodeWrong : ChangeSpec := { name := "fnExactSqueezeCode", fn := fun _ => fun
  | [d] => { results := [.lit (.bool false)], args := [d] }
  | _ => none }
def FnExactSqueezeCodeWrongFalsely : Prop := fnExactSqueezeCodeRow.holds Try.pinned (OpenSpec.ofChange fnExactSqueezeCodeWrong)

/-- 'laws.FnExactDeadMany': WHATEVER THE INPUT: true; the input reads as it did. -/
def fnExactDeadManySpec : ChangeSpec := { name := "fnExactDeadMany", fn := fun _ => fun
  | [d] => { results := [.lit (.bool true)], args := [d] }
  | _ => none }
def fnExactDeadManyRow : OpenClaim := { program := "ytncfflpkhjaidaa", sum := "3521f7631ed39507c401f984b9007947fc187292bd08a7ad7c48585faebb206d", func := "loop.example/cothreads/laws.FnExactDeadMany", spec := "fnExactDeadMany", apart := false }
def FnExactDeadManySaid : Prop := fnExactDeadManyRow.holds Try.pinned (OpenSpec.ofChange fnExactDeadManySpec)

/-- ITS FALSE NEIGHBOUR: 'it returns false'. Refute it at one input. -/
def fnExactDeadManyWrong : ChangeSpec := { name := "fnExactDeadMany", fn := fun _ => fun
  | [d] => { results := [.lit (.bool false)], args := [d] }
  | _ => none }
def FnExactDeadManyWrongFalsely : Prop := fnExactDeadManyRow.holds Try.pinned (OpenSpec.ofChange fnExactDeadManyWrong)

/-- 'laws.FnExactLiveOut': WHATEVER THE INPUT: true; the input reads as it did. -/
def fnExactLiveOutSpec : ChangeSpec := { name := "fnExactLiveOut", fn := fun _ => fun
  | [d1, d2] => { results := [.lit (.bool true)], args := [d1, d2] }
  | _ => none }
def fnExactLiveOutRow : OpenClaim := { program := "ytncfflpkhjaidaa", sum := "3521f7631ed39507c401f984b9007947fc187292bd08a7ad7c48585faebb206d", func := "loop.example/cothreads/laws.FnExactLiveOut", spec := "fnExactLiveOut", apart := false }
def FnExactLiveOutSaid : Prop := fnExactLiveOutRow.holds Try.pinned (OpenSpec.ofChange fnExactLiveOutSpec)

/-- ITS FALSE NEIGHBOUR: 'it returns false'. Refute it at one input. -/
def fnExactLiveOutWrong : ChangeSpec := { name := "fnExactLiveOut", fn := fun _ => fun
  | [d1, d2] => { results := [.lit (.bool false)], args := [d1, d2] }
  | _ => none }
def FnExactLiveOutWrongFalsely : Prop := fnExactLiveOutRow.holds Try.pinned (OpenSpec.ofChange fnExactLiveOutWrong)

/-- 'laws.FnExactLiveOf': WHATEVER THE INPUT: true; the input reads as it did. -/
def fnExactLiveOfSpec : ChangeSpec := { name := "fnExactLiveOf", fn := fun _ => fun
  | [d] => { results := [.lit (.bool true)], args := [d] }
  | _ => none }
def fnExactLiveOfRow : OpenClaim := { program := "ytncfflpkhjaidaa", sum := "3521f7631ed39507c401f984b9007947fc187292bd08a7ad7c48585faebb206d", func := "loop.example/cothreads/laws.FnExactLiveOf", spec := "fnExactLiveOf", apart := false }
def FnExactLiveOfSaid : Prop := fnExactLiveOfRow.holds Try.pinned (OpenSpec.ofChange fnExactLiveOfSpec)

/-- ITS FALSE NEIGHBOUR: 'it returns false'. Refute it at one input. -/
def fnExactLiveOfWrong : ChangeSpec := { name := "fnExactLiveOf", fn := fun _ => fun
  | [d] => { results := [.lit (.bool false)], args := [d] }
  | _ => none }
def FnExactLiveOfWrongFalsely : Prop := fnExactLiveOfRow.holds Try.pinned (OpenSpec.ofChange fnExactLiveOfWrong)

/-- 'laws.FnExactDeadCode': WHATEVER THE INPUT: true; the input reads as it did. -/
def fnExactDeadCodeSpec : ChangeSpec := { name := "fnExactDeadCode", fn := fun _ => fun
  | [d] => { results := [.lit (.bool true)], args := [d] }
  | _ => none }
def fnExactDeadCodeRow : OpenClaim := { program := "ytncfflpkhjaidaa", sum := "3521f7631ed39507c401f984b9007947fc187292bd08a7ad7c48585faebb206d", func := "loop.example/cothreads/laws.FnExactDeadCode", spec := "fnExactDeadCode", apart := false }
def FnExactDeadCodeSaid : Prop := fnExactDeadCodeRow.holds Try.pinned (OpenSpec.ofChange fnExactDeadCodeSpec)

/-- ITS FALSE NEIGHBOUR: 'it returns false'. Refute it at one input. -/
def fnExactDeadCodeWrong : ChangeSpec := { name := "fnExactDeadCode", fn := fun _ => fun
  | [d] => { results := [.lit (.bool false)], args := [d] }
  | _ => none }
def FnExactDeadCodeWrongFalsely : Prop := fnExactDeadCodeRow.holds Try.pinned (OpenSpec.ofChange fnExactDeadCodeWrong)

/-- 'laws.FnExactCopyCode': WHATEVER THE INPUT: true; the input reads as it did. -/
def fnExactCopyCodeSpec : ChangeSpec := { name := "fnExactCopyCode", fn := fun _ => fun
  | [d] => { results := [.lit (.bool true)], args := [d] }
  | _ => none }
def fnExactCopyCodeRow : OpenClaim := { program := "ytncfflpkhjaidaa", sum := "3521f7631ed39507c401f984b9007947fc187292bd08a7ad7c48585faebb206d", func := "loop.example/cothreads/laws.FnExactCopyCode", spec := "fnExactCopyCode", apart := false }
def FnExactCopyCodeSaid : Prop := fnExactCopyCodeRow.holds Try.pinned (OpenSpec.ofChange fnExactCopyCodeSpec)

/-- ITS FALSE NEIGHBOUR: 'it returns false'. Refute it at one input. -/
def fnExactCopyCodeWrong : ChangeSpec := { name := "fnExactCopyCode", fn := fun _ => fun
  | [d] => { results := [.lit (.bool false)], args := [d] }
  | _ => none }
def FnExactCopyCodeWrongFalsely : Prop := fnExactCopyCodeRow.holds Try.pinned (OpenSpec.ofChange fnExactCopyCodeWrong)

/- THE SECOND FORM. 'bulk': how many values and letters a reading holds, each counted each time it is reached (what is shared counts as often as it is met; a slice's spare places count too). A statement '..UptoSaid' is the law's where the arguments, and the package variables that the reading takes, are together of bulk at most 1048576: NARROWER than '..Said'. Prove '..Said' where nothing that the law and all that it calls make is longer than what came in: it says more and counts as full. Else prove '..UptoSaid'. A law counts once. -/
mutual
def uptoBulk {H : Type} : DataW H → Nat
  | .lit (.string bytes) => bytes.length + 1
  | .lit _ => 1
  | .nil => 1
  | .ptr d => uptoBulk d + 1
  | .slice elems spare => uptoBulkAll elems + uptoBulkAll spare + 1
  | .agg parts => uptoBulkAll parts + 1
  | .iface _ d => uptoBulk d + 1
  | .map entries => uptoBulkEntries entries + 1
  | .held _ => 1
def uptoBulkAll {H : Type} : List (DataW H) → Nat
  | [] => 0
  | d :: r => uptoBulk d + uptoBulkAll r
def uptoBulkEntries {H : Type} : List (Lit × DataW H) → Nat
  | [] => 0
  | x :: r => uptoBulkEntry x + uptoBulkEntries r
def uptoBulkEntry {H : Type} : Lit × DataW H → Nat
  | (.string bytes, d) => bytes.length + uptoBulk d + 1
  | (_, d) => uptoBulk d + 1
 end
def uptoSmall : (H : Type) → List (DataW H) → Bool := fun _ ds => decide (uptoBulkAll ds ≤ 1048576)
def OpenSpec.upto (s : _root_.Go.ChangeSpec) : _root_.Go.OpenSpec := { _root_.Go.OpenSpec.ofChange s with cond := some uptoSmall }

/-- 'laws.FnExactThreadNew', WHERE WHAT IT READS IS OF BULK AT MOST 1048576: true; the input reads as it did. -/
def fnExactThreadNewUptoRow : OpenClaim := { program := "ytncfflpkhjaidaa", sum := "3521f7631ed39507c401f984b9007947fc187292bd08a7ad7c48585faebb206d", func := "loop.example/cothreads/laws.FnExactThreadNew", spec := "fnExactThreadNew", apart := false, narrowed := true }
def FnExactThreadNewUptoSaid : Prop := fnExactThreadNewUptoRow.holds Try.pinned (OpenSpec.upto fnExactThreadNewSpec)

/-- 'laws.FnExactThreadValid', WHERE WHAT IT READS IS OF BULK AT MOST 1048576: true; the input reads as it did. -/
def fnExactThreadValidUptoRow : OpenClaim := { program := "ytncfflpkhjaidaa", sum := "3521f7631ed39507c401f984b9007947fc187292bd08a7ad7c48585faebb206d", func := "loop.example/cothreads/laws.FnExactThreadValid", spec := "fnExactThreadValid", apart := false, narrowed := true }
def FnExactThreadValidUptoSaid : Prop := fnExactThreadValidUptoRow.holds Try.pinned (OpenSpec.upto fnExactThreadValidSpec)

/-- 'laws.FnExactCodeNext', WHERE WHAT IT READS IS OF BULK AT MOST 1048576: true; the input reads as it did. -/
def fnExactCodeNextUptoRow : OpenClaim := { program := "ytncfflpkhjaidaa", sum := "3521f7631ed39507c401f984b9007947fc187292bd08a7ad7c48585faebb206d", func := "loop.example/cothreads/laws.FnExactCodeNext", spec := "fnExactCodeNext", apart := false, narrowed := true }
def FnExactCodeNextUptoSaid : Prop := fnExactCodeNextUptoRow.holds Try.pinned (OpenSpec.upto fnExactCodeNextSpec)

/-- 'laws.FnExactJumpCode', WHERE WHAT IT READS IS OF BULK AT MOST 1048576: true; the input reads as it did. -/
def fnExactJumpCodeUptoRow : OpenClaim := { program := "ytncfflpkhjaidaa", sum := "3521f7631ed39507c401f984b9007947fc187292bd08a7ad7c48585faebb206d", func := "loop.example/cothreads/laws.FnExactJumpCode", spec := "fnExactJumpCode", apart := false, narrowed := true }
def FnExactJumpCodeUptoSaid : Prop := fnExactJumpCodeUptoRow.holds Try.pinned (OpenSpec.upto fnExactJumpCodeSpec)

/-- 'laws.FnExactCodeBefore', WHERE WHAT IT READS IS OF BULK AT MOST 1048576: true; the input reads as it did. -/
def fnExactCodeBeforeUptoRow : OpenClaim := { program := "ytncfflpkhjaidaa", sum := "3521f7631ed39507c401f984b9007947fc187292bd08a7ad7c48585faebb206d", func := "loop.example/cothreads/laws.FnExactCodeBefore", spec := "fnExactCodeBefore", apart := false, narrowed := true }
def FnExactCodeBeforeUptoSaid : Prop := fnExactCodeBeforeUptoRow.holds Try.pinned (OpenSpec.upto fnExactCodeBeforeSpec)

/-- 'laws.FnExactCodeReach', WHERE WHAT IT READS IS OF BULK AT MOST 1048576: true; the input reads as it did. -/
def fnExactCodeReachUptoRow : OpenClaim := { program := "ytncfflpkhjaidaa", sum := "3521f7631ed39507c401f984b9007947fc187292bd08a7ad7c48585faebb206d", func := "loop.example/cothreads/laws.FnExactCodeReach", spec := "fnExactCodeReach", apart := false, narrowed := true }
def FnExactCodeReachUptoSaid : Prop := fnExactCodeReachUptoRow.holds Try.pinned (OpenSpec.upto fnExactCodeReachSpec)

/-- 'laws.FnExactSqueezeCode', WHERE WHAT IT READS IS OF BULK AT MOST 1048576: true; the input reads as it did. -/
def fnExactSqueezeCodeUptoRow : OpenClaim := { program := "ytncfflpkhjaidaa", sum := "3521f7631ed39507c401f984b9007947fc187292bd08a7ad7c48585faebb206d", func := "loop.example/cothreads/laws.FnExactSqueezeCode", spec := "fnExactSqueezeCode", apart := false, narrowed := true }
def FnExactSqueezeCodeUptoSaid : Prop := fnExactSqueezeCodeUptoRow.holds Try.pinned (OpenSpec.upto fnExactSqueezeCodeSpec)

/-- 'laws.FnExactDeadMany', WHERE WHAT IT READS IS OF BULK AT MOST 1048576: true; the input reads as it did. -/
def fnExactDeadManyUptoRow : OpenClaim := { program := "ytncfflpkhjaidaa", sum := "3521f7631ed39507c401f984b9007947fc187292bd08a7ad7c48585faebb206d", func := "loop.example/cothreads/laws.FnExactDeadMany", spec := "fnExactDeadMany", apart := false, narrowed := true }
def FnExactDeadManyUptoSaid : Prop := fnExactDeadManyUptoRow.holds Try.pinned (OpenSpec.upto fnExactDeadManySpec)

/-- 'laws.FnExactLiveOut', WHERE WHAT IT READS IS OF BULK AT MOST 1048576: true; the input reads as it did. -/
def fnExactLiveOutUptoRow : OpenClaim := { program := "ytncfflpkhjaidaa", sum := "3521f7631ed39507c401f984b9007947fc187292bd08a7ad7c48585faebb206d", func := "loop.example/cothreads/laws.FnExactLiveOut", spec := "fnExactLiveOut", apart := false, narrowed := true }
def FnExactLiveOutUptoSaid : Prop := fnExactLiveOutUptoRow.holds Try.pinned (OpenSpec.upto fnExactLiveOutSpec)

/-- 'laws.FnExactLiveOf', WHERE WHAT IT READS IS OF BULK AT MOST 1048576: true; the input reads as it did. -/
def fnExactLiveOfUptoRow : OpenClaim := { program := "ytncfflpkhjaidaa", sum := "3521f7631ed39507c401f984b9007947fc187292bd08a7ad7c48585faebb206d", func := "loop.example/cothreads/laws.FnExactLiveOf", spec := "fnExactLiveOf", apart := false, narrowed := true }
def FnExactLiveOfUptoSaid : Prop := fnExactLiveOfUptoRow.holds Try.pinned (OpenSpec.upto fnExactLiveOfSpec)

/-- 'laws.FnExactDeadCode', WHERE WHAT IT READS IS OF BULK AT MOST 1048576: true; the input reads as it did. -/
def fnExactDeadCodeUptoRow : OpenClaim := { program := "ytncfflpkhjaidaa", sum := "3521f7631ed39507c401f984b9007947fc187292bd08a7ad7c48585faebb206d", func := "loop.example/cothreads/laws.FnExactDeadCode", spec := "fnExactDeadCode", apart := false, narrowed := true }
def FnExactDeadCodeUptoSaid : Prop := fnExactDeadCodeUptoRow.holds Try.pinned (OpenSpec.upto fnExactDeadCodeSpec)

/-- 'laws.FnExactCopyCode', WHERE WHAT IT READS IS OF BULK AT MOST 1048576: true; the input reads as it did. -/
def fnExactCopyCodeUptoRow : OpenClaim := { program := "ytncfflpkhjaidaa", sum := "3521f7631ed39507c401f984b9007947fc187292bd08a7ad7c48585faebb206d", func := "loop.example/cothreads/laws.FnExactCopyCode", spec := "fnExactCopyCode", apart := false, narrowed := true }
def FnExactCopyCodeUptoSaid : Prop := fnExactCopyCodeUptoRow.holds Try.pinned (OpenSpec.upto fnExactCopyCodeSpec)

end Rows
end Go.Proofs.Ytncfflpkhjaidaa
