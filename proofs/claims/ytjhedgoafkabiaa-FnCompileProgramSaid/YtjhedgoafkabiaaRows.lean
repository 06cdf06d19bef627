/-
  No cell of these rows narrows 'for every input' (looked for: loops, veiled, ifaces, maps, wideKeys, modest, calm, conditions, laid).
  DERIVED. THE GIVEN ROWS OF THIS SEAT. 11 by the template 'for every input the law returns true; each argument reads behind the call as it read before'; 0 by the template 'total and deterministic' (their statements: YtjhedgoafkabiaaTotals.lean).
  GIVEN WITH THE SEED: the statements are not yours to turn. If you find one false, say at which input.
  Laid BY PROGRAM, IN A SANDBOX (cutbox-rows.mjs): the forced cells as the released guide's own fill.sh prints them over the translation d7f13c2f9541e059… (all of the seat's roots in one cut). By AI agents, Wed Nov 11 2026. No macro, syntax, notation, axiom, sorry.
-/
import Derived.Test.YtjhedgoafkabiaaChecked
import GoSem.Claim
import GoSem.ClaimJoined
import GoSem.ClaimMapViews
import Derived.JoinedTies
import Derived.KernelRfl
namespace Go.Proofs.Ytjhedgoafkabiaa
/- THE CELL 'sum', in the pinned program and in every row, IS THE sha256 OF THE DUMP (.gsa) THAT YtjhedgoafkabiaaProg.lean LOADS. Nothing in Lean hashes anything: it is a label: what it is worth is what the hold of that sum in a sandbox is worth. -/
noncomputable def Try.pinned : Pinned := { name := "ytjhedgoafkabiaa", sum := "d7f13c2f9541e0593ac33dac35d3ac799d97632baca2e800f637b9ffd761dbb7", checked := Try.checked }
namespace Rows
def none {H : Type} : Left H := { results := [], args := [] }

/-- 'laws.FnCompileSizeParts': WHATEVER THE INPUT: true; the input reads as it did. -/
def fnCompileSizePartsSpec : ChangeSpec := { name := "fnCompileSizeParts", fn := fun _ => fun
  | [d1, d2] => { results := [.lit (.bool true)], args := [d1, d2] }
  | _ => none }
def fnCompileSizePartsRow : OpenClaim := { program := "ytjhedgoafkabiaa", sum := "d7f13c2f9541e0593ac33dac35d3ac799d97632baca2e800f637b9ffd761dbb7", func := "loop.example/cothreads/laws.FnCompileSizeParts", spec := "fnCompileSizeParts", unfollowed := true, recurses := true, apart := false }
def FnCompileSizePartsSaid : Prop := fnCompileSizePartsRow.holds Try.pinned (OpenSpec.ofChange fnCompileSizePartsSpec)

/-- ITS FALSE NEIGHBOUR: 'it returns false'. Refute it at one input. -/
def fnCompileSizePartsWrong : ChangeSpec := { name := "fnCompileSizeParts", fn := fun _ => fun
  | [d1, d2] => { results := [.lit (.bool false)], args := [d1, d2] }
  | _ => none }
def FnCompileSizePartsWrongFalsely : Prop := fnCompileSizePartsRow.holds Try.pinned (OpenSpec.ofChange fnCompileSizePartsWrong)

/-- 'laws.FnCompileSize': WHATEVER THE INPUT: true; the input reads as it did. -/
def fnCompileSizeSpec : ChangeSpec := { name := "fnCompileSize", fn := fun _ => fun
  | [d] => { results := [.lit (.bool true)], args := [d] }
  | _ => none }
def fnCompileSizeRow : OpenClaim := { program := "ytjhedgoafkabiaa", sum := "d7f13c2f9541e0593ac33dac35d3ac799d97632baca2e800f637b9ffd761dbb7", func := "loop.example/cothreads/laws.FnCompileSize", spec := "fnCompileSize", unfollowed := true, recurses := true, apart := false }
def FnCompileSizeSaid : Prop := fnCompileSizeRow.holds Try.pinned (OpenSpec.ofChange fnCompileSizeSpec)

/-- ITS FALSE NEIGHBOUR: 'it returns false'. Refute it at one input. -/
def fnCompileSizeWrong : ChangeSpec := { name := "fnCompileSize", fn := fun _ => fun
  | [d] => { results := [.lit (.bool false)], args := [d] }
  | _ => none }
def FnCompileSizeWrongFalsely : Prop := fnCompileSizeRow.holds Try.pinned (OpenSpec.ofChange fnCompileSizeWrong)

/-- 'laws.FnCompileFirst': WHATEVER THE INPUT: true; the input reads as it did. -/
def fnCompileFirstSpec : ChangeSpec := { name := "fnCompileFirst", fn := fun _ => fun
  | [d1, d2] => { results := [.lit (.bool true)], args := [d1, d2] }
  | _ => none }
def fnCompileFirstRow : OpenClaim := { program := "ytjhedgoafkabiaa", sum := "d7f13c2f9541e0593ac33dac35d3ac799d97632baca2e800f637b9ffd761dbb7", func := "loop.example/cothreads/laws.FnCompileFirst", spec := "fnCompileFirst", unfollowed := true, recurses := true, apart := false }
def FnCompileFirstSaid : Prop := fnCompileFirstRow.holds Try.pinned (OpenSpec.ofChange fnCompileFirstSpec)

/-- ITS FALSE NEIGHBOUR: 'it returns false'. Refute it at one input. -/
def fnCompileFirstWrong : ChangeSpec := { name := "fnCompileFirst", fn := fun _ => fun
  | [d1, d2] => { results := [.lit (.bool false)], args := [d1, d2] }
  | _ => none }
def FnCompileFirstWrongFalsely : Prop := fnCompileFirstRow.holds Try.pinned (OpenSpec.ofChange fnCompileFirstWrong)

/-- 'laws.FnCompileLast': WHATEVER THE INPUT: true; the input reads as it did. -/
def fnCompileLastSpec : ChangeSpec := { name := "fnCompileLast", fn := fun _ => fun
  | [d1, d2] => { results := [.lit (.bool true)], args := [d1, d2] }
  | _ => none }
def fnCompileLastRow : OpenClaim := { program := "ytjhedgoafkabiaa", sum := "d7f13c2f9541e0593ac33dac35d3ac799d97632baca2e800f637b9ffd761dbb7", func := "loop.example/cothreads/laws.FnCompileLast", spec := "fnCompileLast", unfollowed := true, recurses := true, apart := false }
def FnCompileLastSaid : Prop := fnCompileLastRow.holds Try.pinned (OpenSpec.ofChange fnCompileLastSpec)

/-- ITS FALSE NEIGHBOUR: 'it returns false'. Refute it at one input. -/
def fnCompileLastWrong : ChangeSpec := { name := "fnCompileLast", fn := fun _ => fun
  | [d1, d2] => { results := [.lit (.bool false)], args := [d1, d2] }
  | _ => none }
def FnCompileLastWrongFalsely : Prop := fnCompileLastRow.holds Try.pinned (OpenSpec.ofChange fnCompileLastWrong)

/-- 'laws.FnCompileBack': WHATEVER THE INPUT: true; the input reads as it did. -/
def fnCompileBackSpec : ChangeSpec := { name := "fnCompileBack", fn := fun _ => fun
  | [d] => { results := [.lit (.bool true)], args := [d] }
  | _ => none }
def fnCompileBackRow : OpenClaim := { program := "ytjhedgoafkabiaa", sum := "d7f13c2f9541e0593ac33dac35d3ac799d97632baca2e800f637b9ffd761dbb7", func := "loop.example/cothreads/laws.FnCompileBack", spec := "fnCompileBack", unfollowed := true, recurses := true, apart := false }
def FnCompileBackSaid : Prop := fnCompileBackRow.holds Try.pinned (OpenSpec.ofChange fnCompileBackSpec)

/-- ITS FALSE NEIGHBOUR: 'it returns false'. Refute it at one input. -/
def fnCompileBackWrong : ChangeSpec := { name := "fnCompileBack", fn := fun _ => fun
  | [d] => { results := [.lit (.bool false)], args := [d] }
  | _ => none }
def FnCompileBackWrongFalsely : Prop := fnCompileBackRow.holds Try.pinned (OpenSpec.ofChange fnCompileBackWrong)

/-- 'laws.FnCompileKinds': WHATEVER THE INPUT: true; the input reads as it did. -/
def fnCompileKindsSpec : ChangeSpec := { name := "fnCompileKinds", fn := fun _ => fun
  | [d] => { results := [.lit (.bool true)], args := [d] }
  | _ => none }
def fnCompileKindsRow : OpenClaim := { program := "ytjhedgoafkabiaa", sum := "d7f13c2f9541e0593ac33dac35d3ac799d97632baca2e800f637b9ffd761dbb7", func := "loop.example/cothreads/laws.FnCompileKinds", spec := "fnCompileKinds", unfollowed := true, recurses := true, apart := false }
def FnCompileKindsSaid : Prop := fnCompileKindsRow.holds Try.pinned (OpenSpec.ofChange fnCompileKindsSpec)

/-- ITS FALSE NEIGHBOUR: 'it returns false'. Refute it at one input. -/
def fnCompileKindsWrong : ChangeSpec := { name := "fnCompileKinds", fn := fun _ => fun
  | [d] => { results := [.lit (.bool false)], args := [d] }
  | _ => none }
def FnCompileKindsWrongFalsely : Prop := fnCompileKindsRow.holds Try.pinned (OpenSpec.ofChange fnCompileKindsWrong)

/-- 'laws.FnCompile': WHATEVER THE INPUT: true; the input reads as it did. -/
def fnCompileSpec : ChangeSpec := { name := "fnCompile", fn := fun _ => fun
  | [d] => { results := [.lit (.bool true)], args := [d] }
  | _ => none }
def fnCompileRow : OpenClaim := { program := "ytjhedgoafkabiaa", sum := "d7f13c2f9541e0593ac33dac35d3ac799d97632baca2e800f637b9ffd761dbb7", func := "loop.example/cothreads/laws.FnCompile", spec := "fnCompile", unfollowed := true, recurses := true, apart := false }
def FnCompileSaid : Prop := fnCompileRow.holds Try.pinned (OpenSpec.ofChange fnCompileSpec)

/-- ITS FALSE NEIGHBOUR: 'it returns false'. Refute it at one input. -/
def fnCompileWrong : ChangeSpec := { name := "fnCompile", fn := fun _ => fun
  | [d] => { results := [.lit (.bool false)], args := [d] }
  | _ => none }
def FnCompileWrongFalsely : Prop := fnCompileRow.holds Try.pinned (OpenSpec.ofChange fnCompileWrong)

/-- 'laws.FnReachCompiled': WHATEVER THE INPUT: true; the input reads as it did. -/
def fnReachCompiledSpec : ChangeSpec := { name := "fnReachCompiled", fn := fun _ => fun
  | [d] => { results := [.lit (.bool true)], args := [d] }
  | _ => none }
def fnReachCompiledRow : OpenClaim := { program := "ytjhedgoafkabiaa", sum := "d7f13c2f9541e0593ac33dac35d3ac799d97632baca2e800f637b9ffd761dbb7", func := "loop.example/cothreads/laws.FnReachCompiled", spec := "fnReachCompiled", unfollowed := true, recurses := true, apart := false }
def FnReachCompiledSaid : Prop := fnReachCompiledRow.holds Try.pinned (OpenSpec.ofChange fnReachCompiledSpec)

/-- ITS FALSE NEIGHBOUR: 'it returns false'. Refute it at one input. -/
def fnReachCompiledWrong : ChangeSpec := { name := "fnReachCompiled", fn := fun _ => fun
  | [d] => { results := [.lit (.bool false)], args := [d] }
  | _ => none }
def FnReachCompiledWrongFalsely : Prop := fnReachCompiledRow.holds Try.pinned (OpenSpec.ofChange fnReachCompiledWrong)

/-- 'laws.FnCompileFold': WHATEVER THE INPUT: true; the input reads as it did. -/
def fnCompileFoldSpec : ChangeSpec := { name := "fnCompileFold", fn := fun _ => fun
  | [d] => { results := [.lit (.bool true)], args := [d] }
  | _ => none }
def fnCompileFoldRow : OpenClaim := { program := "ytjhedgoafkabiaa", sum := "d7f13c2f9541e0593ac33dac35d3ac799d97632baca2e800f637b9ffd761dbb7", func := "loop.example/cothreads/laws.FnCompileFold", spec := "fnCompileFold", unfollowed := true, recurses := true, apart := false }
def FnCompileFoldSaid : Prop := fnCompileFoldRow.holds Try.pinned (OpenSpec.ofChange fnCompileFoldSpec)

/-- ITS FALSE NEIGHBOUR: 'it returns false'. Refute it at one input. -/
def fnCompileFoldWrong : ChangeSpec := { name := "fnCompileFold", fn := fun _ => fun
  | [d] => { results := [.lit (.bool false)], args := [d] }
  | _ => none }
def FnCompileFoldWrongFalsely : Prop := fnCompileFoldRow.holds Try.pinned (OpenSpec.ofChange fnCompileFoldWrong)

/-- 'laws.FnCompileProgram': WHATEVER THE INPUT: true; the input reads as it did. -/
def fnCompileProgramSpec : ChangeSpec := { name := "fnCompileProgram", fn := fun _ => fun
  | [d] => { results := [.lit (.bool true)], args := [d] }
  | _ => none }
def fnCompileProgramRow : OpenClaim := { program := "ytjhedgoafkabiaa", sum := "d7f13c2f9541e0593ac33dac35d3ac799d97632baca2e800f637b9ffd761dbb7", func := "loop.example/cothreads/laws.FnCompileProgram", spec := "fnCompileProgram", unfollowed := true, recurses := true, apart := false }
def FnCompileProgramSaid : Prop := fnCompileProgramRow.holds Try.pinned (OpenSpec.ofChange fnCompileProgramSpec)

/-- ITS FALSE NEIGHBOUR: 'it returns false'. Refute it at one input. -/
def fnCompileProgramWrong : ChangeSpec := { name := "fnCompileProgram", fn := fun _ => fun
  | [d] => { results := [.lit (.bool false)], args := [d] }
  | _ => none }
def FnCompileProgramWrongFalsely : Prop := fnCompileProgramRow.holds Try.pinned (OpenSpec.ofChange fnCompileProgramWrong)

/-- 'laws.FnLiveCompiled': WHATEVER THE INPUT: true; the input reads as it did. -/
def fnLiveCompiledSpec : ChangeSpec := { name := "fnLiveCompiled", fn := fun _ => fun
  | [d] => { results := [.lit (.bool true)], args := [d] }
  | _ => none }
def fnLiveCompiledRow : OpenClaim := { program := "ytjhedgoafkabiaa", sum := "d7f13c2f9541e0593ac33dac35d3ac799d97632baca2e800f637b9ffd761dbb7", func := "loop.example/cothreads/laws.FnLiveCompiled", spec := "fnLiveCompiled", unfollowed := true, recurses := true, apart := false }
def FnLiveCompiledSaid : Prop := fnLiveCompiledRow.holds Try.pinned (OpenSpec.ofChange fnLiveCompiledSpec)

/-- ITS FALSE NEIGHBOUR: 'it returns false'. Refute it at one input. -/
def fnLiveCompiledWrong : ChangeSpec := { name := "fnLiveCompiled", fn := fun _ => fun
  | [d] => { results := [.lit (.bool false)], args := [d] }
  | _ => none }
def FnLiveCompiledWrongFalsely : Prop := fnLiveCompiledRow.holds Try.pinned (OpenSpec.ofChange fnLiveCompiledWrong)

/- THE SECOND FORM. 'bulk': how many values and letters a reading holds, each counted each time it is reached (what is shared counts as often as it is met; a slice's spare places count too). A statement '..UptoSaid' is the law's where the arguments, and the package variables that the reading takes, are together of bulk at most 1048576: NARROWER than '..Said'. Prove '..Said' where nothing that the law and all that it calls make is longer than what came in: it says more and counts as full. Else prove '..UptoSaid'. A law counts once. -/
mutual
def uptoBulk {H : Type} : DataW H → Nat
  | .lit (.string bytes) => bytes.length + 1
  | .lit _ => 1
  | .nil => 1
  | .ptr d => uptoBulk d + 1
  | .slice elems spare => uptoBulkAll elems + uptoBulkAll spare + 1
  | .agg parts => uptoBulkAll parts + 1
  | .iface _ d => uptoBulk d + 1
  | .map entries => uptoBulkEntries entries + 1
  | .held _ => 1
def uptoBulkAll {H : Type} : List (DataW H) → Nat
  | [] => 0
  | d :: r => uptoBulk d + uptoBulkAll r
def uptoBulkEntries {H : Type} : List (Lit × DataW H) → Nat
  | [] => 0
  | x :: r => uptoBulkEntry x + uptoBulkEntries r
def uptoBulkEntry {H : Type} : Lit × DataW H → Nat
  | (.string bytes, d) => bytes.length + uptoBulk d + 1
  | (_, d) => uptoBulk d + 1
 end
def uptoSmall : (H : Type) → List (DataW H) → Bool := fun _ ds => decide (uptoBulkAll ds ≤ 1048576)
def OpenSpec.upto (s : _root_.Go.ChangeSpec) : _root_.Go.OpenSpec := { _root_.Go.OpenSpec.ofChange s with cond := some uptoSmall }

/-- 'laws.FnCompileSizeParts', WHERE WHAT IT READS IS OF BULK AT MOST 1048576: true; the input reads as it did. -/
def fnCompileSizePartsUptoRow : OpenClaim := { program := "ytjhedgoafkabiaa", sum := "d7f13c2f9541e0593ac33dac35d3ac799d97632baca2e800f637b9ffd761dbb7", func := "loop.example/cothreads/laws.FnCompileSizeParts", spec := "fnCompileSizeParts", unfollowed := true, recurses := true, apart := false, narrowed := true }
def FnCompileSizePartsUptoSaid : Prop := fnCompileSizePartsUptoRow.holds Try.pinned (OpenSpec.upto fnCompileSizePartsSpec)

/-- 'laws.FnCompileSize', WHERE WHAT IT READS IS OF BULK AT MOST 1048576: true; the input reads as it did. -/
def fnCompileSizeUptoRow : OpenClaim := { program := "ytjhedgoafkabiaa", sum := "d7f13c2f9541e0593ac33dac35d3ac799d97632baca2e800f637b9ffd761dbb7", func := "loop.example/cothreads/laws.FnCompileSize", spec := "fnCompileSize", unfollowed := true, recurses := true, apart := false, narrowed := true }
def FnCompileSizeUptoSaid : Prop := fnCompileSizeUptoRow.holds Try.pinned (OpenSpec.upto fnCompileSizeSpec)

/-- 'laws.FnCompileFirst', WHERE WHAT IT READS IS OF BULK AT MOST 1048576: true; the input reads as it did. -/
def fnCompileFirstUptoRow : OpenClaim := { program := "ytjhedgoafkabiaa", sum := "d7f13c2f9541e0593ac33dac35d3ac799d97632baca2e800f637b9ffd761dbb7", func := "loop.example/cothreads/laws.FnCompileFirst", spec := "fnCompileFirst", unfollowed := true, recurses := true, apart := false, narrowed := true }
def FnCompileFirstUptoSaid : Prop := fnCompileFirstUptoRow.holds Try.pinned (OpenSpec.upto fnCompileFirstSpec)

/-- 'laws.FnCompileLast', WHERE WHAT IT READS IS OF BULK AT MOST 1048576: true; the input reads as it did. -/
def fnCompileLastUptoRow : OpenClaim := { program := "ytjhedgoafkabiaa", sum := "d7f13c2f9541e0593ac33dac35d3ac799d97632baca2e800f637b9ffd761dbb7", func := "loop.example/cothreads/laws.FnCompileLast", spec := "fnCompileLast", unfollowed := true, recurses := true, apart := false, narrowed := true }
def FnCompileLastUptoSaid : Prop := fnCompileLastUptoRow.holds Try.pinned (OpenSpec.upto fnCompileLastSpec)

/-- 'laws.FnCompileBack', WHERE WHAT IT READS IS OF BULK AT MOST 1048576: true; the input reads as it did. -/
def fnCompileBackUptoRow : OpenClaim := { program := "ytjhedgoafkabiaa", sum := "d7f13c2f9541e0593ac33dac35d3ac799d97632baca2e800f637b9ffd761dbb7", func := "loop.example/cothreads/laws.FnCompileBack", spec := "fnCompileBack", unfollowed := true, recurses := true, apart := false, narrowed := true }
def FnCompileBackUptoSaid : Prop := fnCompileBackUptoRow.holds Try.pinned (OpenSpec.upto fnCompileBackSpec)

/-- 'laws.FnCompileKinds', WHERE WHAT IT READS IS OF BULK AT MOST 1048576: true; the input reads as it did. -/
def fnCompileKindsUptoRow : OpenClaim := { program := "ytjhedgoafkabiaa", sum := "d7f13c2f9541e0593ac33dac35d3ac799d97632baca2e800f637b9ffd761dbb7", func := "loop.example/cothreads/laws.FnCompileKinds", spec := "fnCompileKinds", unfollowed := true, recurses := true, apart := false, narrowed := true }
def FnCompileKindsUptoSaid : Prop := fnCompileKindsUptoRow.holds Try.pinned (OpenSpec.upto fnCompileKindsSpec)

/-- 'laws.FnCompile', WHERE WHAT IT READS IS OF BULK AT MOST 1048576: true; the input reads as it did. -/
def fnCompileUptoRow : OpenClaim := { program := "ytjhedgoafkabiaa", sum := "d7f13c2f9541e0593ac33dac35d3ac799d97632baca2e800f637b9ffd761dbb7", func := "loop.example/cothreads/laws.FnCompile", spec := "fnCompile", unfollowed := true, recurses := true, apart := false, narrowed := true }
def FnCompileUptoSaid : Prop := fnCompileUptoRow.holds Try.pinned (OpenSpec.upto fnCompileSpec)

/-- 'laws.FnReachCompiled', WHERE WHAT IT READS IS OF BULK AT MOST 1048576: true; the input reads as it did. -/
def fnReachCompiledUptoRow : OpenClaim := { program := "ytjhedgoafkabiaa", sum := "d7f13c2f9541e0593ac33dac35d3ac799d97632baca2e800f637b9ffd761dbb7", func := "loop.example/cothreads/laws.FnReachCompiled", spec := "fnReachCompiled", unfollowed := true, recurses := true, apart := false, narrowed := true }
def FnReachCompiledUptoSaid : Prop := fnReachCompiledUptoRow.holds Try.pinned (OpenSpec.upto fnReachCompiledSpec)

/-- 'laws.FnCompileFold', WHERE WHAT IT READS IS OF BULK AT MOST 1048576: true; the input reads as it did. -/
def fnCompileFoldUptoRow : OpenClaim := { program := "ytjhedgoafkabiaa", sum := "d7f13c2f9541e0593ac33dac35d3ac799d97632baca2e800f637b9ffd761dbb7", func := "loop.example/cothreads/laws.FnCompileFold", spec := "fnCompileFold", unfollowed := true, recurses := true, apart := false, narrowed := true }
def FnCompileFoldUptoSaid : Prop := fnCompileFoldUptoRow.holds Try.pinned (OpenSpec.upto fnCompileFoldSpec)

/-- 'laws.FnCompileProgram', WHERE WHAT IT READS IS OF BULK AT MOST 1048576: true; the input reads as it did. -/
def fnCompileProgramUptoRow : OpenClaim := { program := "ytjhedgoafkabiaa", sum := "d7f13c2f9541e0593ac33dac35d3ac799d97632baca2e800f637b9ffd761dbb7", func := "loop.example/cothreads/laws.FnCompileProgram", spec := "fnCompileProgram", unfollowed := true, recurses := true, apart := false, narrowed := true }
def FnCompileProgramUptoSaid : Prop := fnCompileProgramUptoRow.holds Try.pinned (OpenSpec.upto fnCompileProgramSpec)

/-- 'laws.FnLiveCompiled', WHERE WHAT IT READS IS OF BULK AT MOST 1048576: true; the input reads as it did. -/
def fnLiveCompiledUptoRow : OpenClaim := { program := "ytjhedgoafkabiaa", sum := "d7f13c2f9541e0593ac33dac35d3ac799d97632baca2e800f637b9ffd761dbb7", func := "loop.example/cothreads/laws.FnLiveCompiled", spec := "fnLiveCompiled", unfollowed := true, recurses := true, apart := false, narrowed := true }
def FnLiveCompiledUptoSaid : Prop := fnLiveCompiledUptoRow.holds Try.pinned (OpenSpec.upto fnLiveCompiledSpec)

end Rows
end Go.Proofs.Ytjhedgoafkabiaa
