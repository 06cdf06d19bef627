/-
  No cell of these rows narrows 'for every input' (looked for: loops, veiled, ifaces, maps, wideKeys, modest, calm, conditions, laid).
  DERIVED. THE GIVEN ROWS OF THIS SEAT. 6 by the template 'for every input the law returns true; each argument reads behind the call as it read before'; 0 by the template 'total and deterministic' (their statements: YtodhkodhndbpmaaGreatTotals.lean).
  GIVEN WITH THE SEED: the statements are not yours to turn. If you find one false, say at which input.
  Laid BY PROGRAM, IN A SANDBOX (cutbox-rows.mjs): the forced cells as the released guide's own fill.sh prints them over the translation 92d691a752879333… (all of the seat's roots in one cut). By AI agents, Wed Nov 11 2026. No macro, syntax, notation, axiom, sorry.
-/
import Derived.Test.YtodhkodhndbpmaaGreatChecked
import GoSem.Claim
import GoSem.ClaimJoined
import GoSem.ClaimMapViews
import Derived.JoinedTies
import Derived.KernelRfl
namespace Go.Proofs.YtodhkodhndbpmaaGreat
/- THE CELL 'sum', in the pinned program and in every row, IS THE sha256 OF THE DUMP (.gsa) THAT YtodhkodhndbpmaaGreatProg.lean LOADS. Nothing in Lean hashes anything: it is a label: what it is worth is what the hold of that sum in a sandbox is worth. -/
noncomputable def Tryz.pinned : Pinned := { name := "ytodhkodhndbpmaagreat", sum := "92d691a752879333d3c6662a10ab574ef59723bc5e3ee1b4c21add4256a83b06", checked := Tryz.checked }
namespace Rows
def none {H : Type} : Left H := { results := [], args := [] }

/-- 'laws.FnBefore': WHATEVER THE INPUT: true; the input reads as it did. -/
def fnBeforeSpec : ChangeSpec := { name := "fnBefore", fn := fun _ => fun
  | [d] => { results := [.lit (.bool true)], args := [d] }
  | _ => none }
def fnBeforeRow : OpenClaim := { program := "ytodhkodhndbpmaagreat", sum := "92d691a752879333d3c6662a10ab574ef59723bc5e3ee1b4c21add4256a83b06", func := "loop.example/cothreads/laws.FnBefore", spec := "fnBefore", recurses := true, apart := false }
def FnBeforeSaid : Prop := fnBeforeRow.holds Tryz.pinned (OpenSpec.ofChange fnBeforeSpec)

/-- ITS FALSE NEIGHBOUR: 'it returns false'. Refute it at one input. -/
def fnBeforeWrong : ChangeSpec := { name := "fnBefore", fn := fun _ => fun
  | [d] => { results := [.lit (.bool false)], args := [d] }
  | _ => none }
def FnBeforeWrongFalsely : Prop := fnBeforeRow.holds Tryz.pinned (OpenSpec.ofChange fnBeforeWrong)

/-- 'laws.FnJumpCode': WHATEVER THE INPUT: true; the input reads as it did. -/
def fnJumpCodeSpec : ChangeSpec := { name := "fnJumpCode", fn := fun _ => fun
  | [d] => { results := [.lit (.bool true)], args := [d] }
  | _ => none }
def fnJumpCodeRow : OpenClaim := { program := "ytodhkodhndbpmaagreat", sum := "92d691a752879333d3c6662a10ab574ef59723bc5e3ee1b4c21add4256a83b06", func := "loop.example/cothreads/laws.FnJumpCode", spec := "fnJumpCode", recurses := true, apart := false }
def FnJumpCodeSaid : Prop := fnJumpCodeRow.holds Tryz.pinned (OpenSpec.ofChange fnJumpCodeSpec)

/-- ITS FALSE NEIGHBOUR: 'it returns false'. Refute it at one input. -/
def fnJumpCodeWrong : ChangeSpec := { name := "fnJumpCode", fn := fun _ => fun
  | [d] => { results := [.lit (.bool false)], args := [d] }
  | _ => none }
def FnJumpCodeWrongFalsely : Prop := fnJumpCodeRow.holds Tryz.pinned (OpenSpec.ofChange fnJumpCodeWrong)

/-- 'laws.FnJumpReach': WHATEVER THE INPUT: true; the input reads as it did. -/
def fnJumpReachSpec : ChangeSpec := { name := "fnJumpReach", fn := fun _ => fun
  | [d] => { results := [.lit (.bool true)], args := [d] }
  | _ => none }
def fnJumpReachRow : OpenClaim := { program := "ytodhkodhndbpmaagreat", sum := "92d691a752879333d3c6662a10ab574ef59723bc5e3ee1b4c21add4256a83b06", func := "loop.example/cothreads/laws.FnJumpReach", spec := "fnJumpReach", recurses := true, apart := false }
def FnJumpReachSaid : Prop := fnJumpReachRow.holds Tryz.pinned (OpenSpec.ofChange fnJumpReachSpec)

/-- ITS FALSE NEIGHBOUR: 'it returns false'. Refute it at one input. -/
def fnJumpReachWrong : ChangeSpec := { name := "fnJumpReach", fn := fun _ => fun
  | [d] => { results := [.lit (.bool false)], args := [d] }
  | _ => none }
def FnJumpReachWrongFalsely : Prop := fnJumpReachRow.holds Tryz.pinned (OpenSpec.ofChange fnJumpReachWrong)

/-- 'laws.FnSqueeze': WHATEVER THE INPUT: true; the input reads as it did. -/
def fnSqueezeSpec : ChangeSpec := { name := "fnSqueeze", fn := fun _ => fun
  | [d] => { results := [.lit (.bool true)], args := [d] }
  | _ => none }
def fnSqueezeRow : OpenClaim := { program := "ytodhkodhndbpmaagreat", sum := "92d691a752879333d3c6662a10ab574ef59723bc5e3ee1b4c21add4256a83b06", func := "loop.example/cothreads/laws.FnSqueeze", spec := "fnSqueeze", recurses := true, apart := false }
def FnSqueezeSaid : Prop := fnSqueezeRow.holds Tryz.pinned (OpenSpec.ofChange fnSqueezeSpec)

/-- ITS FALSE NEIGHBOUR: 'it returns false'. Refute it at one input. -/
def fnSqueezeWrong : ChangeSpec := { name := "fnSqueeze", fn := fun _ => fun
  | [d] => { results := [.lit (.bool false)], args := [d] }
  | _ => none }
def FnSqueezeWrongFalsely : Prop := fnSqueezeRow.holds Tryz.pinned (OpenSpec.ofChange fnSqueezeWrong)

/-- 'laws.FnSqueezeNone': WHATEVER THE INPUT: true; the input reads as it did. -/
def fnSqueezeNoneSpec : ChangeSpec := { name := "fnSqueezeNone", fn := fun _ => fun
  | [d] => { results := [.lit (.bool true)], args := [d] }
  | _ => none }
def fnSqueezeNoneRow : OpenClaim := { program := "ytodhkodhndbpmaagreat", sum := "92d691a752879333d3c6662a10ab574ef59723bc5e3ee1b4c21add4256a83b06", func := "loop.example/cothreads/laws.FnSqueezeNone", spec := "fnSqueezeNone", recurses := true, apart := false }
def FnSqueezeNoneSaid : Prop := fnSqueezeNoneRow.holds Tryz.pinned (OpenSpec.ofChange fnSqueezeNoneSpec)

/-- ITS FALSE NEIGHBOUR: 'it returns false'. Refute it at one input. -/
def fnSqueezeNoneWrong : ChangeSpec := { name := "fnSqueezeNone", fn := fun _ => fun
  | [d] => { results := [.lit (.bool false)], args := [d] }
  | _ => none }
def FnSqueezeNoneWrongFalsely : Prop := fnSqueezeNoneRow.holds Tryz.pinned (OpenSpec.ofChange fnSqueezeNoneWrong)

/-- 'laws.FnSqueezeKinds': WHATEVER THE INPUT: true; the input reads as it did. -/
def fnSqueezeKindsSpec : ChangeSpec := { name := "fnSqueezeKinds", fn := fun _ => fun
  | [d] => { results := [.lit (.bool true)], args := [d] }
  | _ => none }
def fnSqueezeKindsRow : OpenClaim := { program := "ytodhkodhndbpmaagreat", sum := "92d691a752879333d3c6662a10ab574ef59723bc5e3ee1b4c21add4256a83b06", func := "loop.example/cothreads/laws.FnSqueezeKinds", spec := "fnSqueezeKinds", recurses := true, apart := false }
def FnSqueezeKindsSaid : Prop := fnSqueezeKindsRow.holds Tryz.pinned (OpenSpec.ofChange fnSqueezeKindsSpec)

/-- ITS FALSE NEIGHBOUR: 'it returns false'. Refute it at one input. -/
def fnSqueezeKindsWrong : ChangeSpec := { name := "fnSqueezeKinds", fn := fun _ => fun
  | [d] => { results := [.lit (.bool false)], args := [d] }
  | _ => none }
def FnSqueezeKindsWrongFalsely : Prop := fnSqueezeKindsRow.holds Tryz.pinned (OpenSpec.ofChange fnSqueezeKindsWrong)

/- THE SECOND FORM. 'bulk': how many values and letters a reading holds, each counted each time it is reached (what is shared counts as often as it is met; a slice's spare places count too). A statement '..UptoSaid' is the law's where the arguments, and the package variables that the reading takes, are together of bulk at most 1048576: NARROWER than '..Said'. Prove '..Said' where nothing that the law and all that it calls make is longer than what came in: it says more and counts as full. Else prove '..UptoSaid'. A law counts once. -/
mutual
def uptoBulk {H : Type} : DataW H → Nat
  | .lit (.string bytes) => bytes.length + 1
  | .lit _ => 1
  | .nil => 1
  | .ptr d => uptoBulk d + 1
  | .slice elems spare => uptoBulkAll elems + uptoBulkAll spare + 1
  | .agg parts => uptoBulkAll parts + 1
  | .iface _ d => uptoBulk d + 1
  | .map entries => uptoBulkEntries entries + 1
  | .held _ => 1
def uptoBulkAll {H : Type} : List (DataW H) → Nat
  | [] => 0
  | d :: r => uptoBulk d + uptoBulkAll r
def uptoBulkEntries {H : Type} : List (Lit × DataW H) → Nat
  | [] => 0
  | x :: r => uptoBulkEntry x + uptoBulkEntries r
def uptoBulkEntry {H : Type} : Lit × DataW H → Nat
  | (.string bytes, d) => bytes.length + uptoBulk d + 1
  | (_, d) => uptoBulk d + 1
 end
def uptoSmall : (H : Type) → List (DataW H) → Bool := fun _ ds => decide (uptoBulkAll ds ≤ 1048576)
def OpenSpec.upto (s : _root_.Go.ChangeSpec) : _root_.Go.OpenSpec := { _root_.Go.OpenSpec.ofChange s with cond := some uptoSmall }

/-- 'laws.FnBefore', WHERE WHAT IT READS IS OF BULK AT MOST 1048576: true; the input reads as it did. -/
def fnBeforeUptoRow : OpenClaim := { program := "ytodhkodhndbpmaagreat", sum := "92d691a752879333d3c6662a10ab574ef59723bc5e3ee1b4c21add4256a83b06", func := "loop.example/cothreads/laws.FnBefore", spec := "fnBefore", recurses := true, apart := false, narrowed := true }
def FnBeforeUptoSaid : Prop := fnBeforeUptoRow.holds Tryz.pinned (OpenSpec.upto fnBeforeSpec)

/-- 'laws.FnJumpCode', WHERE WHAT IT READS IS OF BULK AT MOST 1048576: true; the input reads as it did. -/
def fnJumpCodeUptoRow : OpenClaim := { program := "ytodhkodhndbpmaagreat", sum := "92d691a752879333d3c6662a10ab574ef59723bc5e3ee1b4c21add4256a83b06", func := "loop.example/cothreads/laws.FnJumpCode", spec := "fnJumpCode", recurses := true, apart := false, narrowed := true }
def FnJumpCodeUptoSaid : Prop := fnJumpCodeUptoRow.holds Tryz.pinned (OpenSpec.upto fnJumpCodeSpec)

/-- 'laws.FnJumpReach', WHERE WHAT IT READS IS OF BULK AT MOST 1048576: true; the input reads as it did. -/
def fnJumpReachUptoRow : OpenClaim := { program := "ytodhkodhndbpmaagreat", sum := "92d691a752879333d3c6662a10ab574ef59723bc5e3ee1b4c21add4256a83b06", func := "loop.example/cothreads/laws.FnJumpReach", spec := "fnJumpReach", recurses := true, apart := false, narrowed := true }
def FnJumpReachUptoSaid : Prop := fnJumpReachUptoRow.holds Tryz.pinned (OpenSpec.upto fnJumpReachSpec)

/-- 'laws.FnSqueeze', WHERE WHAT IT READS IS OF BULK AT MOST 1048576: true; the input reads as it did. -/
def fnSqueezeUptoRow : OpenClaim := { program := "ytodhkodhndbpmaagreat", sum := "92d691a752879333d3c6662a10ab574ef59723bc5e3ee1b4c21add4256a83b06", func := "loop.example/cothreads/laws.FnSqueeze", spec := "fnSqueeze", recurses := true, apart := false, narrowed := true }
def FnSqueezeUptoSaid : Prop := fnSqueezeUptoRow.holds Tryz.pinned (OpenSpec.upto fnSqueezeSpec)

/-- 'laws.FnSqueezeNone', WHERE WHAT IT READS IS OF BULK AT MOST 1048576: true; the input reads as it did. -/
def fnSqueezeNoneUptoRow : OpenClaim := { program := "ytodhkodhndbpmaagreat", sum := "92d691a752879333d3c6662a10ab574ef59723bc5e3ee1b4c21add4256a83b06", func := "loop.example/cothreads/laws.FnSqueezeNone", spec := "fnSqueezeNone", recurses := true, apart := false, narrowed := true }
def FnSqueezeNoneUptoSaid : Prop := fnSqueezeNoneUptoRow.holds Tryz.pinned (OpenSpec.upto fnSqueezeNoneSpec)

/-- 'laws.FnSqueezeKinds', WHERE WHAT IT READS IS OF BULK AT MOST 1048576: true; the input reads as it did. -/
def fnSqueezeKindsUptoRow : OpenClaim := { program := "ytodhkodhndbpmaagreat", sum := "92d691a752879333d3c6662a10ab574ef59723bc5e3ee1b4c21add4256a83b06", func := "loop.example/cothreads/laws.FnSqueezeKinds", spec := "fnSqueezeKinds", recurses := true, apart := false, narrowed := true }
def FnSqueezeKindsUptoSaid : Prop := fnSqueezeKindsUptoRow.holds Tryz.pinned (OpenSpec.upto fnSqueezeKindsSpec)

end Rows
end Go.Proofs.YtodhkodhndbpmaaGreat
