/-
  No cell of these rows narrows 'for every input' (looked for: loops, veiled, ifaces, maps, wideKeys, modest, calm, conditions, laid).
  DERIVED. THE GIVEN ROWS OF THIS SEAT. 5 by the template 'for every input the law returns true; each argument reads behind the call as it read before'; 0 by the template 'total and deterministic' (their statements: YtjfpmhgknajnlaaGreatTotals.lean).
  GIVEN WITH THE SEED: the statements are not yours to turn. If you find one false, say at which input.
  Laid BY PROGRAM, IN A SANDBOX (cutbox-rows.mjs): the forced cells as the released guide's own fill.sh prints them over the translation 2f806bdf54a3ff7d… (all of the seat's roots in one cut). By AI agents, Wed Nov 11 2026. No macro, syntax, notation, axiom, sorry.
-/
import Derived.Test.YtjfpmhgknajnlaaGreatChecked
import GoSem.Claim
import GoSem.ClaimJoined
import GoSem.ClaimMapViews
import Derived.JoinedTies
import Derived.KernelRfl
namespace Go.Proofs.YtjfpmhgknajnlaaGreat
/- THE CELL 'sum', in the pinned program and in every row, IS THE sha256 OF THE DUMP (.gsa) THAT YtjfpmhgknajnlaaGreatProg.lean LOADS. Nothing in Lean hashes anything: it is a label: what it is worth is what the hold of that sum in a sandbox is worth. -/
noncomputable def Tryz.pinned : Pinned := { name := "ytjfpmhgknajnlaagreat", sum := "2f806bdf54a3ff7df510df3060981e7c754a1b9d4c02d138ed3d4e33ef6d5344", checked := Tryz.checked }
namespace Rows
def none {H : Type} : Left H := { results := [], args := [] }

/-- 'laws.FnThreadNew': WHATEVER THE INPUT: true; the input reads as it did. -/
def fnThreadNewSpec : ChangeSpec := { name := "fnThreadNew", fn := fun _ => fun
  | [d] => { results := [.lit (.bool true)], args := [d] }
  | _ => none }
def fnThreadNewRow : OpenClaim := { program := "ytjfpmhgknajnlaagreat", sum := "2f806bdf54a3ff7df510df3060981e7c754a1b9d4c02d138ed3d4e33ef6d5344", func := "loop.example/cothreads/laws.FnThreadNew", spec := "fnThreadNew", recurses := true, apart := false }
def FnThreadNewSaid : Prop := fnThreadNewRow.holds Tryz.pinned (OpenSpec.ofChange fnThreadNewSpec)

/-- ITS FALSE NEIGHBOUR: 'it returns false'. Refute it at one input. -/
def fnThreadNewWrong : ChangeSpec := { name := "fnThreadNew", fn := fun _ => fun
  | [d] => { results := [.lit (.bool false)], args := [d] }
  | _ => none }
def FnThreadNewWrongFalsely : Prop := fnThreadNewRow.holds Tryz.pinned (OpenSpec.ofChange fnThreadNewWrong)

/-- 'laws.FnThread': WHATEVER THE INPUT: true; the input reads as it did. -/
def fnThreadSpec : ChangeSpec := { name := "fnThread", fn := fun _ => fun
  | [d1, d2] => { results := [.lit (.bool true)], args := [d1, d2] }
  | _ => none }
def fnThreadRow : OpenClaim := { program := "ytjfpmhgknajnlaagreat", sum := "2f806bdf54a3ff7df510df3060981e7c754a1b9d4c02d138ed3d4e33ef6d5344", func := "loop.example/cothreads/laws.FnThread", spec := "fnThread", recurses := true, apart := false }
def FnThreadSaid : Prop := fnThreadRow.holds Tryz.pinned (OpenSpec.ofChange fnThreadSpec)

/-- ITS FALSE NEIGHBOUR: 'it returns false'. Refute it at one input. -/
def fnThreadWrong : ChangeSpec := { name := "fnThread", fn := fun _ => fun
  | [d1, d2] => { results := [.lit (.bool false)], args := [d1, d2] }
  | _ => none }
def FnThreadWrongFalsely : Prop := fnThreadRow.holds Tryz.pinned (OpenSpec.ofChange fnThreadWrong)

/-- 'laws.FnReachWhy': WHATEVER THE INPUT: true; the input reads as it did. -/
def fnReachWhySpec : ChangeSpec := { name := "fnReachWhy", fn := fun _ => fun
  | [d] => { results := [.lit (.bool true)], args := [d] }
  | _ => none }
def fnReachWhyRow : OpenClaim := { program := "ytjfpmhgknajnlaagreat", sum := "2f806bdf54a3ff7df510df3060981e7c754a1b9d4c02d138ed3d4e33ef6d5344", func := "loop.example/cothreads/laws.FnReachWhy", spec := "fnReachWhy", recurses := true, apart := false }
def FnReachWhySaid : Prop := fnReachWhyRow.holds Tryz.pinned (OpenSpec.ofChange fnReachWhySpec)

/-- ITS FALSE NEIGHBOUR: 'it returns false'. Refute it at one input. -/
def fnReachWhyWrong : ChangeSpec := { name := "fnReachWhy", fn := fun _ => fun
  | [d] => { results := [.lit (.bool false)], args := [d] }
  | _ => none }
def FnReachWhyWrongFalsely : Prop := fnReachWhyRow.holds Tryz.pinned (OpenSpec.ofChange fnReachWhyWrong)

/-- 'laws.FnEdges': WHATEVER THE INPUT: true; the input reads as it did. -/
def fnEdgesSpec : ChangeSpec := { name := "fnEdges", fn := fun _ => fun
  | [d] => { results := [.lit (.bool true)], args := [d] }
  | _ => none }
def fnEdgesRow : OpenClaim := { program := "ytjfpmhgknajnlaagreat", sum := "2f806bdf54a3ff7df510df3060981e7c754a1b9d4c02d138ed3d4e33ef6d5344", func := "loop.example/cothreads/laws.FnEdges", spec := "fnEdges", recurses := true, apart := false }
def FnEdgesSaid : Prop := fnEdgesRow.holds Tryz.pinned (OpenSpec.ofChange fnEdgesSpec)

/-- ITS FALSE NEIGHBOUR: 'it returns false'. Refute it at one input. -/
def fnEdgesWrong : ChangeSpec := { name := "fnEdges", fn := fun _ => fun
  | [d] => { results := [.lit (.bool false)], args := [d] }
  | _ => none }
def FnEdgesWrongFalsely : Prop := fnEdgesRow.holds Tryz.pinned (OpenSpec.ofChange fnEdgesWrong)

/-- 'laws.FnNext': WHATEVER THE INPUT: true; the input reads as it did. -/
def fnNextSpec : ChangeSpec := { name := "fnNext", fn := fun _ => fun
  | [d] => { results := [.lit (.bool true)], args := [d] }
  | _ => none }
def fnNextRow : OpenClaim := { program := "ytjfpmhgknajnlaagreat", sum := "2f806bdf54a3ff7df510df3060981e7c754a1b9d4c02d138ed3d4e33ef6d5344", func := "loop.example/cothreads/laws.FnNext", spec := "fnNext", recurses := true, apart := false }
def FnNextSaid : Prop := fnNextRow.holds Tryz.pinned (OpenSpec.ofChange fnNextSpec)

/-- ITS FALSE NEIGHBOUR: 'it returns false'. Refute it at one input. -/
def fnNextWrong : ChangeSpec := { name := "fnNext", fn := fun _ => fun
  | [d] => { results := [.lit (.bool false)], args := [d] }
  | _ => none }
def FnNextWrongFalsely : Prop := fnNextRow.holds Tryz.pinned (OpenSpec.ofChange fnNextWrong)

/- THE SECOND FORM. 'bulk': how many values and letters a reading holds, each counted each time it is reached (what is shared counts as often as it is met; a slice's spare places count too). A statement '..UptoSaid' is the law's where the arguments, and the package variables that the reading takes, are together of bulk at most 1048576: NARROWER than '..Said'. Prove '..Said' where nothing that the law and all that it calls make is longer than what came in: it says more and counts as full. Else prove '..UptoSaid'. A law counts once. -/
mutual
def uptoBulk {H : Type} : DataW H → Nat
  | .lit (.string bytes) => bytes.length + 1
  | .lit _ => 1
  | .nil => 1
  | .ptr d => uptoBulk d + 1
  | .slice elems spare => uptoBulkAll elems + uptoBulkAll spare + 1
  | .agg parts => uptoBulkAll parts + 1
  | .iface _ d => uptoBulk d + 1
  | .map entries => uptoBulkEntries entries + 1
  | .held _ => 1
def uptoBulkAll {H : Type} : List (DataW H) → Nat
  | [] => 0
  | d :: r => uptoBulk d + uptoBulkAll r
def uptoBulkEntries {H : Type} : List (Lit × DataW H) → Nat
  | [] => 0
  | x :: r => uptoBulkEntry x + uptoBulkEntries r
def uptoBulkEntry {H : Type} : Lit × DataW H → Nat
  | (.string bytes, d) => bytes.length + uptoBulk d + 1
  | (_, d) => uptoBulk d + 1
 end
def uptoSmall : (H : Type) → List (DataW H) → Bool := fun _ ds => decide (uptoBulkAll ds ≤ 1048576)
def OpenSpec.upto (s : _root_.Go.ChangeSpec) : _root_.Go.OpenSpec := { _root_.Go.OpenSpec.ofChange s with cond := some uptoSmall }

/-- 'laws.FnThreadNew', WHERE WHAT IT READS IS OF BULK AT MOST 1048576: true; the input reads as it did. -/
def fnThreadNewUptoRow : OpenClaim := { program := "ytjfpmhgknajnlaagreat", sum := "2f806bdf54a3ff7df510df3060981e7c754a1b9d4c02d138ed3d4e33ef6d5344", func := "loop.example/cothreads/laws.FnThreadNew", spec := "fnThreadNew", recurses := true, apart := false, narrowed := true }
def FnThreadNewUptoSaid : Prop := fnThreadNewUptoRow.holds Tryz.pinned (OpenSpec.upto fnThreadNewSpec)

/-- 'laws.FnThread', WHERE WHAT IT READS IS OF BULK AT MOST 1048576: true; the input reads as it did. -/
def fnThreadUptoRow : OpenClaim := { program := "ytjfpmhgknajnlaagreat", sum := "2f806bdf54a3ff7df510df3060981e7c754a1b9d4c02d138ed3d4e33ef6d5344", func := "loop.example/cothreads/laws.FnThread", spec := "fnThread", recurses := true, apart := false, narrowed := true }
def FnThreadUptoSaid : Prop := fnThreadUptoRow.holds Tryz.pinned (OpenSpec.upto fnThreadSpec)

/-- 'laws.FnReachWhy', WHERE WHAT IT READS IS OF BULK AT MOST 1048576: true; the input reads as it did. -/
def fnReachWhyUptoRow : OpenClaim := { program := "ytjfpmhgknajnlaagreat", sum := "2f806bdf54a3ff7df510df3060981e7c754a1b9d4c02d138ed3d4e33ef6d5344", func := "loop.example/cothreads/laws.FnReachWhy", spec := "fnReachWhy", recurses := true, apart := false, narrowed := true }
def FnReachWhyUptoSaid : Prop := fnReachWhyUptoRow.holds Tryz.pinned (OpenSpec.upto fnReachWhySpec)

/-- 'laws.FnEdges', WHERE WHAT IT READS IS OF BULK AT MOST 1048576: true; the input reads as it did. -/
def fnEdgesUptoRow : OpenClaim := { program := "ytjfpmhgknajnlaagreat", sum := "2f806bdf54a3ff7df510df3060981e7c754a1b9d4c02d138ed3d4e33ef6d5344", func := "loop.example/cothreads/laws.FnEdges", spec := "fnEdges", recurses := true, apart := false, narrowed := true }
def FnEdgesUptoSaid : Prop := fnEdgesUptoRow.holds Tryz.pinned (OpenSpec.upto fnEdgesSpec)

/-- 'laws.FnNext', WHERE WHAT IT READS IS OF BULK AT MOST 1048576: true; the input reads as it did. -/
def fnNextUptoRow : OpenClaim := { program := "ytjfpmhgknajnlaagreat", sum := "2f806bdf54a3ff7df510df3060981e7c754a1b9d4c02d138ed3d4e33ef6d5344", func := "loop.example/cothreads/laws.FnNext", spec := "fnNext", recurses := true, apart := false, narrowed := true }
def FnNextUptoSaid : Prop := fnNextUptoRow.holds Tryz.pinned (OpenSpec.upto fnNextSpec)

end Rows
end Go.Proofs.YtjfpmhgknajnlaaGreat
