/-
  No cell of these rows narrows 'for every input' (looked for: loops, veiled, ifaces, maps, wideKeys, modest, calm, conditions, laid).
  DERIVED. THE GIVEN ROWS OF THIS SEAT. 7 by the template 'for every input the law returns true; each argument reads behind the call as it read before'; 0 by the template 'total and deterministic' (their statements: YtlagpccnhbobiaaTotals.lean).
  GIVEN WITH THE SEED: the statements are not yours to turn. If you find one false, say at which input.
  Laid BY PROGRAM, IN A SANDBOX (cutbox-rows.mjs): the forced cells as the released guide's own fill.sh prints them over the translation a77ade81d61576ab… (all of the seat's roots in one cut). By AI agents, Wed Nov 11 2026. No macro, syntax, notation, axiom, sorry.
-/
import Derived.Test.YtlagpccnhbobiaaChecked
import GoSem.Claim
import GoSem.ClaimJoined
import GoSem.ClaimMapViews
import Derived.JoinedTies
import Derived.KernelRfl
namespace Go.Proofs.Ytlagpccnhbobiaa
/- THE CELL 'sum', in the pinned program and in every row, IS THE sha256 OF THE DUMP (.gsa) THAT YtlagpccnhbobiaaProg.lean LOADS. Nothing in Lean hashes anything: it is a label: what it is worth is what the hold of that sum in a sandbox is worth. -/
noncomputable def Try.pinned : Pinned := { name := "ytlagpccnhbobiaa", sum := "a77ade81d61576abec4f1a620b40e0e7ffab2e69b81741e8065b956255f9b5ec", checked := Try.checked }
namespace Rows
def none {H : Type} : Left H := { results := [], args := [] }

/-- 'laws.FnExactPointsOf': WHATEVER THE INPUT: true; the input reads as it did. -/
def fnExactPointsOfSpec : ChangeSpec := { name := "fnExactPointsOf", fn := fun _ => fun
  | [d] => { results := [.lit (.bool true)], args := [d] }
  | _ => none }
def fnExactPointsOfRow : OpenClaim := { program := "ytlagpccnhbobiaa", sum := "a77ade81d61576abec4f1a620b40e0e7ffab2e69b81741e8065b956255f9b5ec", func := "loop.example/savingsclub/laws.FnExactPointsOf", spec := "fnExactPointsOf", apart := false }
def FnExactPointsOfSaid : Prop := fnExactPointsOfRow.holds Try.pinned (OpenSpec.ofChange fnExactPointsOfSpec)

/-- ITS FALSE NEIGHBOUR: 'it returns false'. Refute it at one input. -/
def fnExactPointsOfWrong : ChangeSpec := { name := "fnExactPointsOf", fn := fun _ => fun
  | [d] => { results := [.lit (.bool false)], args := [d] }
  | _ => none }
def FnExactPointsOfWrongFalsely : Prop := fnExactPointsOfRow.holds Try.pinned (OpenSpec.ofChange fnExactPointsOfWrong)

/-- 'laws.FnBeatsAll': WHATEVER THE INPUT: true; the input reads as it did. -/
def fnBeatsAllSpec : ChangeSpec := { name := "fnBeatsAll", fn := fun _ => fun
  | [d] => { results := [.lit (.bool true)], args := [d] }
  | _ => none }
def fnBeatsAllRow : OpenClaim := { program := "ytlagpccnhbobiaa", sum := "a77ade81d61576abec4f1a620b40e0e7ffab2e69b81741e8065b956255f9b5ec", func := "loop.example/savingsclub/laws.FnBeatsAll", spec := "fnBeatsAll", apart := false }
def FnBeatsAllSaid : Prop := fnBeatsAllRow.holds Try.pinned (OpenSpec.ofChange fnBeatsAllSpec)

/-- ITS FALSE NEIGHBOUR: 'it returns false'. Refute it at one input. -/
def fnBeatsAllWrong : ChangeSpec := { name := "fnBeatsAll", fn := fun _ => fun
  | [d] => { results := [.lit (.bool false)], args := [d] }
  | _ => none }
def FnBeatsAllWrongFalsely : Prop := fnBeatsAllRow.holds Try.pinned (OpenSpec.ofChange fnBeatsAllWrong)

/-- 'laws.FnExactBeatsAll': WHATEVER THE INPUT: true; the input reads as it did. -/
def fnExactBeatsAllSpec : ChangeSpec := { name := "fnExactBeatsAll", fn := fun _ => fun
  | [d] => { results := [.lit (.bool true)], args := [d] }
  | _ => none }
def fnExactBeatsAllRow : OpenClaim := { program := "ytlagpccnhbobiaa", sum := "a77ade81d61576abec4f1a620b40e0e7ffab2e69b81741e8065b956255f9b5ec", func := "loop.example/savingsclub/laws.FnExactBeatsAll", spec := "fnExactBeatsAll", apart := false }
def FnExactBeatsAllSaid : Prop := fnExactBeatsAllRow.holds Try.pinned (OpenSpec.ofChange fnExactBeatsAllSpec)

/-- ITS FALSE NEIGHBOUR: 'it returns false'. Refute it at one input. -/
def fnExactBeatsAllWrong : ChangeSpec := { name := "fnExactBeatsAll", fn := fun _ => fun
  | [d] => { results := [.lit (.bool false)], args := [d] }
  | _ => none }
def FnExactBeatsAllWrongFalsely : Prop := fnExactBeatsAllRow.holds Try.pinned (OpenSpec.ofChange fnExactBeatsAllWrong)

/-- 'laws.FnPointsOf': WHATEVER THE INPUT: true; the input reads as it did. -/
def fnPointsOfSpec : ChangeSpec := { name := "fnPointsOf", fn := fun _ => fun
  | [d] => { results := [.lit (.bool true)], args := [d] }
  | _ => none }
def fnPointsOfRow : OpenClaim := { program := "ytlagpccnhbobiaa", sum := "a77ade81d61576abec4f1a620b40e0e7ffab2e69b81741e8065b956255f9b5ec", func := "loop.example/savingsclub/laws.FnPointsOf", spec := "fnPointsOf", apart := false }
def FnPointsOfSaid : Prop := fnPointsOfRow.holds Try.pinned (OpenSpec.ofChange fnPointsOfSpec)

/-- ITS FALSE NEIGHBOUR: 'it returns false'. Refute it at one input. -/
def fnPointsOfWrong : ChangeSpec := { name := "fnPointsOf", fn := fun _ => fun
  | [d] => { results := [.lit (.bool false)], args := [d] }
  | _ => none }
def FnPointsOfWrongFalsely : Prop := fnPointsOfRow.holds Try.pinned (OpenSpec.ofChange fnPointsOfWrong)

/-- 'laws.FnRunoff': WHATEVER THE INPUT: true; the input reads as it did. -/
def fnRunoffSpec : ChangeSpec := { name := "fnRunoff", fn := fun _ => fun
  | [d] => { results := [.lit (.bool true)], args := [d] }
  | _ => none }
def fnRunoffRow : OpenClaim := { program := "ytlagpccnhbobiaa", sum := "a77ade81d61576abec4f1a620b40e0e7ffab2e69b81741e8065b956255f9b5ec", func := "loop.example/savingsclub/laws.FnRunoff", spec := "fnRunoff", apart := false }
def FnRunoffSaid : Prop := fnRunoffRow.holds Try.pinned (OpenSpec.ofChange fnRunoffSpec)

/-- ITS FALSE NEIGHBOUR: 'it returns false'. Refute it at one input. -/
def fnRunoffWrong : ChangeSpec := { name := "fnRunoff", fn := fun _ => fun
  | [d] => { results := [.lit (.bool false)], args := [d] }
  | _ => none }
def FnRunoffWrongFalsely : Prop := fnRunoffRow.holds Try.pinned (OpenSpec.ofChange fnRunoffWrong)

/-- 'laws.FnPointsOfBeats': WHATEVER THE INPUT: true; the input reads as it did. -/
def fnPointsOfBeatsSpec : ChangeSpec := { name := "fnPointsOfBeats", fn := fun _ => fun
  | [d] => { results := [.lit (.bool true)], args := [d] }
  | _ => none }
def fnPointsOfBeatsRow : OpenClaim := { program := "ytlagpccnhbobiaa", sum := "a77ade81d61576abec4f1a620b40e0e7ffab2e69b81741e8065b956255f9b5ec", func := "loop.example/savingsclub/laws.FnPointsOfBeats", spec := "fnPointsOfBeats", apart := false }
def FnPointsOfBeatsSaid : Prop := fnPointsOfBeatsRow.holds Try.pinned (OpenSpec.ofChange fnPointsOfBeatsSpec)

/-- ITS FALSE NEIGHBOUR: 'it returns false'. Refute it at one input. -/
def fnPointsOfBeatsWrong : ChangeSpec := { name := "fnPointsOfBeats", fn := fun _ => fun
  | [d] => { results := [.lit (.bool false)], args := [d] }
  | _ => none }
def FnPointsOfBeatsWrongFalsely : Prop := fnPointsOfBeatsRow.holds Try.pinned (OpenSpec.ofChange fnPointsOfBeatsWrong)

/-- 'laws.FnExactRunoff': WHATEVER THE INPUT: true; the input reads as it did. -/
def fnExactRunoffSpec : ChangeSpec := { name := "fnExactRunoff", fn := fun _ => fun
  | [d] => { results := [.lit (.bool true)], args := [d] }
  | _ => none }
def fnExactRunoffRow : OpenClaim := { program := "ytlagpccnhbobiaa", sum := "a77ade81d61576abec4f1a620b40e0e7ffab2e69b81741e8065b956255f9b5ec", func := "loop.example/savingsclub/laws.FnExactRunoff", spec := "fnExactRunoff", apart := false }
def FnExactRunoffSaid : Prop := fnExactRunoffRow.holds Try.pinned (OpenSpec.ofChange fnExactRunoffSpec)

/-- ITS FALSE NEIGHBOUR: 'it returns false'. Refute it at one input. -/
def fnExactRunoffWrong : ChangeSpec := { name := "fnExactRunoff", fn := fun _ => fun
  | [d] => { results := [.lit (.bool false)], args := [d] }
  | _ => none }
def FnExactRunoffWrongFalsely : Prop := fnExactRunoffRow.holds Try.pinned (OpenSpec.ofChange fnExactRunoffWrong)

/- THE SECOND FORM. 'bulk': how many values and letters a reading holds, each counted each time it is reached (what is shared counts as often as it is met; a slice's spare places count too). A statement '..UptoSaid' is the law's where the arguments, and the package variables that the reading takes, are together of bulk at most 1048576: NARROWER than '..Said'. Prove '..Said' where nothing that the law and all that it calls make is longer than what came in: it says more and counts as full. Else prove '..UptoSaid'. A law counts once. -/
mutual
def uptoBulk {H : Type} : DataW H → Nat
  | .lit (.string bytes) => bytes.length + 1
  | .lit _ => 1
  | .nil => 1
  | .ptr d => uptoBulk d + 1
  | .slice elems spare => uptoBulkAll elems + uptoBulkAll spare + 1
  | .agg parts => uptoBulkAll parts + 1
  | .iface _ d => uptoBulk d + 1
  | .map entries => uptoBulkEntries entries + 1
  | .held _ => 1
def uptoBulkAll {H : Type} : List (DataW H) → Nat
  | [] => 0
  | d :: r => uptoBulk d + uptoBulkAll r
def uptoBulkEntries {H : Type} : List (Lit × DataW H) → Nat
  | [] => 0
  | x :: r => uptoBulkEntry x + uptoBulkEntries r
def uptoBulkEntry {H : Type} : Lit × DataW H → Nat
  | (.string bytes, d) => bytes.length + uptoBulk d + 1
  | (_, d) => uptoBulk d + 1
 end
def uptoSmall : (H : Type) → List (DataW H) → Bool := fun _ ds => decide (uptoBulkAll ds ≤ 1048576)
def OpenSpec.upto (s : _root_.Go.ChangeSpec) : _root_.Go.OpenSpec := { _root_.Go.OpenSpec.ofChange s with cond := some uptoSmall }

/-- 'laws.FnExactPointsOf', WHERE WHAT IT READS IS OF BULK AT MOST 1048576: true; the input reads as it did. -/
def fnExactPointsOfUptoRow : OpenClaim := { program := "ytlagpccnhbobiaa", sum := "a77ade81d61576abec4f1a620b40e0e7ffab2e69b81741e8065b956255f9b5ec", func := "loop.example/savingsclub/laws.FnExactPointsOf", spec := "fnExactPointsOf", apart := false, narrowed := true }
def FnExactPointsOfUptoSaid : Prop := fnExactPointsOfUptoRow.holds Try.pinned (OpenSpec.upto fnExactPointsOfSpec)

/-- 'laws.FnBeatsAll', WHERE WHAT IT READS IS OF BULK AT MOST 1048576: true; the input reads as it did. -/
def fnBeatsAllUptoRow : OpenClaim := { program := "ytlagpccnhbobiaa", sum := "a77ade81d61576abec4f1a620b40e0e7ffab2e69b81741e8065b956255f9b5ec", func := "loop.example/savingsclub/laws.FnBeatsAll", spec := "fnBeatsAll", apart := false, narrowed := true }
def FnBeatsAllUptoSaid : Prop := fnBeatsAllUptoRow.holds Try.pinned (OpenSpec.upto fnBeatsAllSpec)

/-- 'laws.FnExactBeatsAll', WHERE WHAT IT READS IS OF BULK AT MOST 1048576: true; the input reads as it did. -/
def fnExactBeatsAllUptoRow : OpenClaim := { program := "ytlagpccnhbobiaa", sum := "a77ade81d61576abec4f1a620b40e0e7ffab2e69b81741e8065b956255f9b5ec", func := "loop.example/savingsclub/laws.FnExactBeatsAll", spec := "fnExactBeatsAll", apart := false, narrowed := true }
def FnExactBeatsAllUptoSaid : Prop := fnExactBeatsAllUptoRow.holds Try.pinned (OpenSpec.upto fnExactBeatsAllSpec)

/-- 'laws.FnPointsOf', WHERE WHAT IT READS IS OF BULK AT MOST 1048576: true; the input reads as it did. -/
def fnPointsOfUptoRow : OpenClaim := { program := "ytlagpccnhbobiaa", sum := "a77ade81d61576abec4f1a620b40e0e7ffab2e69b81741e8065b956255f9b5ec", func := "loop.example/savingsclub/laws.FnPointsOf", spec := "fnPointsOf", apart := false, narrowed := true }
def FnPointsOfUptoSaid : Prop := fnPointsOfUptoRow.holds Try.pinned (OpenSpec.upto fnPointsOfSpec)

/-- 'laws.FnRunoff', WHERE WHAT IT READS IS OF BULK AT MOST 1048576: true; the input reads as it did. -/
def fnRunoffUptoRow : OpenClaim := { program := "ytlagpccnhbobiaa", sum := "a77ade81d61576abec4f1a620b40e0e7ffab2e69b81741e8065b956255f9b5ec", func := "loop.example/savingsclub/laws.FnRunoff", spec := "fnRunoff", apart := false, narrowed := true }
def FnRunoffUptoSaid : Prop := fnRunoffUptoRow.holds Try.pinned (OpenSpec.upto fnRunoffSpec)

/-- 'laws.FnPointsOfBeats', WHERE WHAT IT READS IS OF BULK AT MOST 1048576: true; the input reads as it did. -/
def fnPointsOfBeatsUptoRow : OpenClaim := { program := "ytlagpccnhbobiaa", sum := "a77ade81d61576abec4f1a620b40e0e7ffab2e69b81741e8065b956255f9b5ec", func := "loop.example/savingsclub/laws.FnPointsOfBeats", spec := "fnPointsOfBeats", apart := false, narrowed := true }
def FnPointsOfBeatsUptoSaid : Prop := fnPointsOfBeatsUptoRow.holds Try.pinned (OpenSpec.upto fnPointsOfBeatsSpec)

/-- 'laws.FnExactRunoff', WHERE WHAT IT READS IS OF BULK AT MOST 1048576: true; the input reads as it did. -/
def fnExactRunoffUptoRow : OpenClaim := { program := "ytlagpccnhbobiaa", sum := "a77ade81d61576abec4f1a620b40e0e7ffab2e69b81741e8065b956255f9b5ec", func := "loop.example/savingsclub/laws.FnExactRunoff", spec := "fnExactRunoff", apart := false, narrowed := true }
def FnExactRunoffUptoSaid : Prop := fnExactRunoffUptoRow.holds Try.pinned (OpenSpec.upto fnExactRunoffSpec)

end Rows
end Go.Proofs.Ytlagpccnhbobiaa
