/-
  No cell of these rows narrows 'for every input' (looked for: loops, veiled, ifaces, maps, wideKeys, modest, calm, conditions, laid).
  DERIVED. THE GIVEN ROWS OF THIS SEAT. 7 by the template 'for every input the law returns true; each argument reads behind the call as it read before'; 0 by the template 'total and deterministic' (their statements: YtgapjelooefofaaTotals.lean).
  GIVEN WITH THE SEED: the statements are not yours to turn. If you find one false, say at which input.
  Laid BY PROGRAM, IN A SANDBOX (cutbox-rows.mjs): the forced cells as the released guide's own fill.sh prints them over the translation f1e72c80dae8cc6a… (all of the seat's roots in one cut). By AI agents, Wed Nov 11 2026. No macro, syntax, notation, axiom, sorry.
-/
import Derived.Test.YtgapjelooefofaaChecked
import GoSem.Claim
import GoSem.ClaimJoined
import GoSem.ClaimMapViews
import Derived.JoinedTies
import Derived.KernelRfl
namespace Go.Proofs.Ytgapjelooefofaa
/- THE CELL 'sum', in the pinned program and in every row, IS THE sha256 OF THE DUMP (.gsa) THAT YtgapjelooefofaaProg.lean LOADS. Nothing in Lean hashes anything: it is a label: what it is worth is what the hold of that sum in a sandbox is worth. -/
noncomputable def Try.pinned : Pinned := { name := "ytgapjelooefofaa", sum := "f1e72c80dae8cc6ab61d6264fec58620409793fcf6e7ac69a1caab44044f8202", checked := Try.checked }
namespace Rows
def none {H : Type} : Left H := { results := [], args := [] }

/-- 'laws.FnCloseTo': WHATEVER THE INPUT: true; the input reads as it did. -/
def fnCloseToSpec : ChangeSpec := { name := "fnCloseTo", fn := fun _ => fun
  | [d] => { results := [.lit (.bool true)], args := [d] }
  | _ => none }
def fnCloseToRow : OpenClaim := { program := "ytgapjelooefofaa", sum := "f1e72c80dae8cc6ab61d6264fec58620409793fcf6e7ac69a1caab44044f8202", func := "loop.example/savingsclub/laws.FnCloseTo", spec := "fnCloseTo", apart := false }
def FnCloseToSaid : Prop := fnCloseToRow.holds Try.pinned (OpenSpec.ofChange fnCloseToSpec)

/-- ITS FALSE NEIGHBOUR: 'it returns false'. Refute it at one input. -/
def fnCloseToWrong : ChangeSpec := { name := "fnCloseTo", fn := fun _ => fun
  | [d] => { results := [.lit (.bool false)], args := [d] }
  | _ => none }
def FnCloseToWrongFalsely : Prop := fnCloseToRow.holds Try.pinned (OpenSpec.ofChange fnCloseToWrong)

/-- 'laws.FnMistakeOf': WHATEVER THE INPUT: true; the input reads as it did. -/
def fnMistakeOfSpec : ChangeSpec := { name := "fnMistakeOf", fn := fun _ => fun
  | [d] => { results := [.lit (.bool true)], args := [d] }
  | _ => none }
def fnMistakeOfRow : OpenClaim := { program := "ytgapjelooefofaa", sum := "f1e72c80dae8cc6ab61d6264fec58620409793fcf6e7ac69a1caab44044f8202", func := "loop.example/savingsclub/laws.FnMistakeOf", spec := "fnMistakeOf", recurses := true, apart := false }
def FnMistakeOfSaid : Prop := fnMistakeOfRow.holds Try.pinned (OpenSpec.ofChange fnMistakeOfSpec)

/-- ITS FALSE NEIGHBOUR: 'it returns false'. Refute it at one input. -/
def fnMistakeOfWrong : ChangeSpec := { name := "fnMistakeOf", fn := fun _ => fun
  | [d] => { results := [.lit (.bool false)], args := [d] }
  | _ => none }
def FnMistakeOfWrongFalsely : Prop := fnMistakeOfRow.holds Try.pinned (OpenSpec.ofChange fnMistakeOfWrong)

/-- 'laws.FnExactMatchBooks': WHATEVER THE INPUT: true; the input reads as it did. -/
def fnExactMatchBooksSpec : ChangeSpec := { name := "fnExactMatchBooks", fn := fun _ => fun
  | [d1, d2] => { results := [.lit (.bool true)], args := [d1, d2] }
  | _ => none }
def fnExactMatchBooksRow : OpenClaim := { program := "ytgapjelooefofaa", sum := "f1e72c80dae8cc6ab61d6264fec58620409793fcf6e7ac69a1caab44044f8202", func := "loop.example/savingsclub/laws.FnExactMatchBooks", spec := "fnExactMatchBooks", apart := false }
def FnExactMatchBooksSaid : Prop := fnExactMatchBooksRow.holds Try.pinned (OpenSpec.ofChange fnExactMatchBooksSpec)

/-- ITS FALSE NEIGHBOUR: 'it returns false'. Refute it at one input. -/
def fnExactMatchBooksWrong : ChangeSpec := { name := "fnExactMatchBooks", fn := fun _ => fun
  | [d1, d2] => { results := [.lit (.bool false)], args := [d1, d2] }
  | _ => none }
def FnExactMatchBooksWrongFalsely : Prop := fnExactMatchBooksRow.holds Try.pinned (OpenSpec.ofChange fnExactMatchBooksWrong)

/-- 'laws.FnExactOnlyIn': WHATEVER THE INPUT: true; the input reads as it did. -/
def fnExactOnlyInSpec : ChangeSpec := { name := "fnExactOnlyIn", fn := fun _ => fun
  | [d1, d2] => { results := [.lit (.bool true)], args := [d1, d2] }
  | _ => none }
def fnExactOnlyInRow : OpenClaim := { program := "ytgapjelooefofaa", sum := "f1e72c80dae8cc6ab61d6264fec58620409793fcf6e7ac69a1caab44044f8202", func := "loop.example/savingsclub/laws.FnExactOnlyIn", spec := "fnExactOnlyIn", apart := false }
def FnExactOnlyInSaid : Prop := fnExactOnlyInRow.holds Try.pinned (OpenSpec.ofChange fnExactOnlyInSpec)

/-- ITS FALSE NEIGHBOUR: 'it returns false'. Refute it at one input. -/
def fnExactOnlyInWrong : ChangeSpec := { name := "fnExactOnlyIn", fn := fun _ => fun
  | [d1, d2] => { results := [.lit (.bool false)], args := [d1, d2] }
  | _ => none }
def FnExactOnlyInWrongFalsely : Prop := fnExactOnlyInRow.holds Try.pinned (OpenSpec.ofChange fnExactOnlyInWrong)

/-- 'laws.FnExactCloseTo': WHATEVER THE INPUT: true; the input reads as it did. -/
def fnExactCloseToSpec : ChangeSpec := { name := "fnExactCloseTo", fn := fun _ => fun
  | [d1, d2, d3] => { results := [.lit (.bool true)], args := [d1, d2, d3] }
  | _ => none }
def fnExactCloseToRow : OpenClaim := { program := "ytgapjelooefofaa", sum := "f1e72c80dae8cc6ab61d6264fec58620409793fcf6e7ac69a1caab44044f8202", func := "loop.example/savingsclub/laws.FnExactCloseTo", spec := "fnExactCloseTo", apart := false }
def FnExactCloseToSaid : Prop := fnExactCloseToRow.holds Try.pinned (OpenSpec.ofChange fnExactCloseToSpec)

/-- ITS FALSE NEIGHBOUR: 'it returns false'. Refute it at one input. -/
def fnExactCloseToWrong : ChangeSpec := { name := "fnExactCloseTo", fn := fun _ => fun
  | [d1, d2, d3] => { results := [.lit (.bool false)], args := [d1, d2, d3] }
  | _ => none }
def FnExactCloseToWrongFalsely : Prop := fnExactCloseToRow.holds Try.pinned (OpenSpec.ofChange fnExactCloseToWrong)

/-- 'laws.FnMatchBooks': WHATEVER THE INPUT: true; the input reads as it did. -/
def fnMatchBooksSpec : ChangeSpec := { name := "fnMatchBooks", fn := fun _ => fun
  | [d] => { results := [.lit (.bool true)], args := [d] }
  | _ => none }
def fnMatchBooksRow : OpenClaim := { program := "ytgapjelooefofaa", sum := "f1e72c80dae8cc6ab61d6264fec58620409793fcf6e7ac69a1caab44044f8202", func := "loop.example/savingsclub/laws.FnMatchBooks", spec := "fnMatchBooks", recurses := true, apart := false }
def FnMatchBooksSaid : Prop := fnMatchBooksRow.holds Try.pinned (OpenSpec.ofChange fnMatchBooksSpec)

/-- ITS FALSE NEIGHBOUR: 'it returns false'. Refute it at one input. -/
def fnMatchBooksWrong : ChangeSpec := { name := "fnMatchBooks", fn := fun _ => fun
  | [d] => { results := [.lit (.bool false)], args := [d] }
  | _ => none }
def FnMatchBooksWrongFalsely : Prop := fnMatchBooksRow.holds Try.pinned (OpenSpec.ofChange fnMatchBooksWrong)

/-- 'laws.FnOnlyIn': WHATEVER THE INPUT: true; the input reads as it did. -/
def fnOnlyInSpec : ChangeSpec := { name := "fnOnlyIn", fn := fun _ => fun
  | [d] => { results := [.lit (.bool true)], args := [d] }
  | _ => none }
def fnOnlyInRow : OpenClaim := { program := "ytgapjelooefofaa", sum := "f1e72c80dae8cc6ab61d6264fec58620409793fcf6e7ac69a1caab44044f8202", func := "loop.example/savingsclub/laws.FnOnlyIn", spec := "fnOnlyIn", recurses := true, apart := false }
def FnOnlyInSaid : Prop := fnOnlyInRow.holds Try.pinned (OpenSpec.ofChange fnOnlyInSpec)

/-- ITS FALSE NEIGHBOUR: 'it returns false'. Refute it at one input. -/
def fnOnlyInWrong : ChangeSpec := { name := "fnOnlyIn", fn := fun _ => fun
  | [d] => { results := [.lit (.bool false)], args := [d] }
  | _ => none }
def FnOnlyInWrongFalsely : Prop := fnOnlyInRow.holds Try.pinned (OpenSpec.ofChange fnOnlyInWrong)

/- THE SECOND FORM. 'bulk': how many values and letters a reading holds, each counted each time it is reached (what is shared counts as often as it is met; a slice's spare places count too). A statement '..UptoSaid' is the law's where the arguments, and the package variables that the reading takes, are together of bulk at most 1048576: NARROWER than '..Said'. Prove '..Said' where nothing that the law and all that it calls make is longer than what came in: it says more and counts as full. Else prove '..UptoSaid'. A law counts once. -/
mutual
def uptoBulk {H : Type} : DataW H → Nat
  | .lit (.string bytes) => bytes.length + 1
  | .lit _ => 1
  | .nil => 1
  | .ptr d => uptoBulk d + 1
  | .slice elems spare => uptoBulkAll elems + uptoBulkAll spare + 1
  | .agg parts => uptoBulkAll parts + 1
  | .iface _ d => uptoBulk d + 1
  | .map entries => uptoBulkEntries entries + 1
  | .held _ => 1
def uptoBulkAll {H : Type} : List (DataW H) → Nat
  | [] => 0
  | d :: r => uptoBulk d + uptoBulkAll r
def uptoBulkEntries {H : Type} : List (Lit × DataW H) → Nat
  | [] => 0
  | x :: r => uptoBulkEntry x + uptoBulkEntries r
def uptoBulkEntry {H : Type} : Lit × DataW H → Nat
  | (.string bytes, d) => bytes.length + uptoBulk d + 1
  | (_, d) => uptoBulk d + 1
 end
def uptoSmall : (H : Type) → List (DataW H) → Bool := fun _ ds => decide (uptoBulkAll ds ≤ 1048576)
def OpenSpec.upto (s : _root_.Go.ChangeSpec) : _root_.Go.OpenSpec := { _root_.Go.OpenSpec.ofChange s with cond := some uptoSmall }

/-- 'laws.FnCloseTo', WHERE WHAT IT READS IS OF BULK AT MOST 1048576: true; the input reads as it did. -/
def fnCloseToUptoRow : OpenClaim := { program := "ytgapjelooefofaa", sum := "f1e72c80dae8cc6ab61d6264fec58620409793fcf6e7ac69a1caab44044f8202", func := "loop.example/savingsclub/laws.FnCloseTo", spec := "fnCloseTo", apart := false, narrowed := true }
def FnCloseToUptoSaid : Prop := fnCloseToUptoRow.holds Try.pinned (OpenSpec.upto fnCloseToSpec)

/-- 'laws.FnMistakeOf', WHERE WHAT IT READS IS OF BULK AT MOST 1048576: true; the input reads as it did. -/
def fnMistakeOfUptoRow : OpenClaim := { program := "ytgapjelooefofaa", sum := "f1e72c80dae8cc6ab61d6264fec58620409793fcf6e7ac69a1caab44044f8202", func := "loop.example/savingsclub/laws.FnMistakeOf", spec := "fnMistakeOf", recurses := true, apart := false, narrowed := true }
def FnMistakeOfUptoSaid : Prop := fnMistakeOfUptoRow.holds Try.pinned (OpenSpec.upto fnMistakeOfSpec)

/-- 'laws.FnExactMatchBooks', WHERE WHAT IT READS IS OF BULK AT MOST 1048576: true; the input reads as it did. -/
def fnExactMatchBooksUptoRow : OpenClaim := { program := "ytgapjelooefofaa", sum := "f1e72c80dae8cc6ab61d6264fec58620409793fcf6e7ac69a1caab44044f8202", func := "loop.example/savingsclub/laws.FnExactMatchBooks", spec := "fnExactMatchBooks", apart := false, narrowed := true }
def FnExactMatchBooksUptoSaid : Prop := fnExactMatchBooksUptoRow.holds Try.pinned (OpenSpec.upto fnExactMatchBooksSpec)

/-- 'laws.FnExactOnlyIn', WHERE WHAT IT READS IS OF BULK AT MOST 1048576: true; the input reads as it did. -/
def fnExactOnlyInUptoRow : OpenClaim := { program := "ytgapjelooefofaa", sum := "f1e72c80dae8cc6ab61d6264fec58620409793fcf6e7ac69a1caab44044f8202", func := "loop.example/savingsclub/laws.FnExactOnlyIn", spec := "fnExactOnlyIn", apart := false, narrowed := true }
def FnExactOnlyInUptoSaid : Prop := fnExactOnlyInUptoRow.holds Try.pinned (OpenSpec.upto fnExactOnlyInSpec)

/-- 'laws.FnExactCloseTo', WHERE WHAT IT READS IS OF BULK AT MOST 1048576: true; the input reads as it did. -/
def fnExactCloseToUptoRow : OpenClaim := { program := "ytgapjelooefofaa", sum := "f1e72c80dae8cc6ab61d6264fec58620409793fcf6e7ac69a1caab44044f8202", func := "loop.example/savingsclub/laws.FnExactCloseTo", spec := "fnExactCloseTo", apart := false, narrowed := true }
def FnExactCloseToUptoSaid : Prop := fnExactCloseToUptoRow.holds Try.pinned (OpenSpec.upto fnExactCloseToSpec)

/-- 'laws.FnMatchBooks', WHERE WHAT IT READS IS OF BULK AT MOST 1048576: true; the input reads as it did. -/
def fnMatchBooksUptoRow : OpenClaim := { program := "ytgapjelooefofaa", sum := "f1e72c80dae8cc6ab61d6264fec58620409793fcf6e7ac69a1caab44044f8202", func := "loop.example/savingsclub/laws.FnMatchBooks", spec := "fnMatchBooks", recurses := true, apart := false, narrowed := true }
def FnMatchBooksUptoSaid : Prop := fnMatchBooksUptoRow.holds Try.pinned (OpenSpec.upto fnMatchBooksSpec)

/-- 'laws.FnOnlyIn', WHERE WHAT IT READS IS OF BULK AT MOST 1048576: true; the input reads as it did. -/
def fnOnlyInUptoRow : OpenClaim := { program := "ytgapjelooefofaa", sum := "f1e72c80dae8cc6ab61d6264fec58620409793fcf6e7ac69a1caab44044f8202", func := "loop.example/savingsclub/laws.FnOnlyIn", spec := "fnOnlyIn", recurses := true, apart := false, narrowed := true }
def FnOnlyInUptoSaid : Prop := fnOnlyInUptoRow.holds Try.pinned (OpenSpec.upto fnOnlyInSpec)

end Rows
end Go.Proofs.Ytgapjelooefofaa
