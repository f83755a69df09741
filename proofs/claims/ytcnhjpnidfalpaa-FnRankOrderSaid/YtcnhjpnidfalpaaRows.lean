/-
  No cell of these rows narrows 'for every input' (looked for: loops, veiled, ifaces, maps, wideKeys, modest, calm, conditions, laid).
  DERIVED. THE GIVEN ROWS OF THIS SEAT. 6 by the template 'for every input the law returns true; each argument reads behind the call as it read before'; 0 by the template 'total and deterministic' (their statements: YtcnhjpnidfalpaaTotals.lean).
  GIVEN WITH THE SEED: the statements are not yours to turn. If you find one false, say at which input.
  Laid BY PROGRAM, IN A SANDBOX (cutbox-rows.mjs): the forced cells as the released guide's own fill.sh prints them over the translation 871f184a777277b8… (all of the seat's roots in one cut). By AI agents, Wed Nov 11 2026. No macro, syntax, notation, axiom, sorry.
-/
import Derived.Test.YtcnhjpnidfalpaaChecked
import GoSem.Claim
import GoSem.ClaimJoined
import GoSem.ClaimMapViews
import Derived.JoinedTies
import Derived.KernelRfl
namespace Go.Proofs.Ytcnhjpnidfalpaa
/- THE CELL 'sum', in the pinned program and in every row, IS THE sha256 OF THE DUMP (.gsa) THAT YtcnhjpnidfalpaaProg.lean LOADS. Nothing in Lean hashes anything: it is a label: what it is worth is what the hold of that sum in a sandbox is worth. -/
noncomputable def Try.pinned : Pinned := { name := "ytcnhjpnidfalpaa", sum := "871f184a777277b8b7b16a097a39039fcc5393b24c92a615852f5fd0f338fbbc", checked := Try.checked }
namespace Rows
def none {H : Type} : Left H := { results := [], args := [] }

/-- 'laws.FnWinnerOf': WHATEVER THE INPUT: true; the input reads as it did. -/
def fnWinnerOfSpec : ChangeSpec := { name := "fnWinnerOf", fn := fun _ => fun
  | [d] => { results := [.lit (.bool true)], args := [d] }
  | _ => none }
def fnWinnerOfRow : OpenClaim := { program := "ytcnhjpnidfalpaa", sum := "871f184a777277b8b7b16a097a39039fcc5393b24c92a615852f5fd0f338fbbc", func := "loop.example/savingsclub/laws.FnWinnerOf", spec := "fnWinnerOf", apart := false }
def FnWinnerOfSaid : Prop := fnWinnerOfRow.holds Try.pinned (OpenSpec.ofChange fnWinnerOfSpec)

/-- ITS FALSE NEIGHBOUR: 'it returns false'. Refute it at one input. -/
def fnWinnerOfWrong : ChangeSpec := { name := "fnWinnerOf", fn := fun _ => fun
  | [d] => { results := [.lit (.bool false)], args := [d] }
  | _ => none }
def FnWinnerOfWrongFalsely : Prop := fnWinnerOfRow.holds Try.pinned (OpenSpec.ofChange fnWinnerOfWrong)

/-- 'laws.FnOrderAt': WHATEVER THE INPUT: true; the input reads as it did. -/
def fnOrderAtSpec : ChangeSpec := { name := "fnOrderAt", fn := fun _ => fun
  | [d] => { results := [.lit (.bool true)], args := [d] }
  | _ => none }
def fnOrderAtRow : OpenClaim := { program := "ytcnhjpnidfalpaa", sum := "871f184a777277b8b7b16a097a39039fcc5393b24c92a615852f5fd0f338fbbc", func := "loop.example/savingsclub/laws.FnOrderAt", spec := "fnOrderAt", apart := false }
def FnOrderAtSaid : Prop := fnOrderAtRow.holds Try.pinned (OpenSpec.ofChange fnOrderAtSpec)

/-- ITS FALSE NEIGHBOUR: 'it returns false'. Refute it at one input. -/
def fnOrderAtWrong : ChangeSpec := { name := "fnOrderAt", fn := fun _ => fun
  | [d] => { results := [.lit (.bool false)], args := [d] }
  | _ => none }
def FnOrderAtWrongFalsely : Prop := fnOrderAtRow.holds Try.pinned (OpenSpec.ofChange fnOrderAtWrong)

/-- 'laws.FnBidOrder': WHATEVER THE INPUT: true; the input reads as it did. -/
def fnBidOrderSpec : ChangeSpec := { name := "fnBidOrder", fn := fun _ => fun
  | [d] => { results := [.lit (.bool true)], args := [d] }
  | _ => none }
def fnBidOrderRow : OpenClaim := { program := "ytcnhjpnidfalpaa", sum := "871f184a777277b8b7b16a097a39039fcc5393b24c92a615852f5fd0f338fbbc", func := "loop.example/savingsclub/laws.FnBidOrder", spec := "fnBidOrder", apart := false }
def FnBidOrderSaid : Prop := fnBidOrderRow.holds Try.pinned (OpenSpec.ofChange fnBidOrderSpec)

/-- ITS FALSE NEIGHBOUR: 'it returns false'. Refute it at one input. -/
def fnBidOrderWrong : ChangeSpec := { name := "fnBidOrder", fn := fun _ => fun
  | [d] => { results := [.lit (.bool false)], args := [d] }
  | _ => none }
def FnBidOrderWrongFalsely : Prop := fnBidOrderRow.holds Try.pinned (OpenSpec.ofChange fnBidOrderWrong)

/-- 'laws.FnRankOrder': WHATEVER THE INPUT: true; the input reads as it did. -/
def fnRankOrderSpec : ChangeSpec := { name := "fnRankOrder", fn := fun _ => fun
  | [d] => { results := [.lit (.bool true)], args := [d] }
  | _ => none }
def fnRankOrderRow : OpenClaim := { program := "ytcnhjpnidfalpaa", sum := "871f184a777277b8b7b16a097a39039fcc5393b24c92a615852f5fd0f338fbbc", func := "loop.example/savingsclub/laws.FnRankOrder", spec := "fnRankOrder", apart := false }
def FnRankOrderSaid : Prop := fnRankOrderRow.holds Try.pinned (OpenSpec.ofChange fnRankOrderSpec)

/-- ITS FALSE NEIGHBOUR: 'it returns false'. Refute it at one input. -/
def fnRankOrderWrong : ChangeSpec := { name := "fnRankOrder", fn := fun _ => fun
  | [d] => { results := [.lit (.bool false)], args := [d] }
  | _ => none }
def FnRankOrderWrongFalsely : Prop := fnRankOrderRow.holds Try.pinned (OpenSpec.ofChange fnRankOrderWrong)

/-- 'laws.FnExactPayoutsOf': WHATEVER THE INPUT: true; the input reads as it did. -/
def fnExactPayoutsOfSpec : ChangeSpec := { name := "fnExactPayoutsOf", fn := fun _ => fun
  | [d1, d2, d3] => { results := [.lit (.bool true)], args := [d1, d2, d3] }
  | _ => none }
def fnExactPayoutsOfRow : OpenClaim := { program := "ytcnhjpnidfalpaa", sum := "871f184a777277b8b7b16a097a39039fcc5393b24c92a615852f5fd0f338fbbc", func := "loop.example/savingsclub/laws.FnExactPayoutsOf", spec := "fnExactPayoutsOf", apart := false }
def FnExactPayoutsOfSaid : Prop := fnExactPayoutsOfRow.holds Try.pinned (OpenSpec.ofChange fnExactPayoutsOfSpec)

/-- ITS FALSE NEIGHBOUR: 'it returns false'. Refute it at one input. -/
def fnExactPayoutsOfWrong : ChangeSpec := { name := "fnExactPayoutsOf", fn := fun _ => fun
  | [d1, d2, d3] => { results := [.lit (.bool false)], args := [d1, d2, d3] }
  | _ => none }
def FnExactPayoutsOfWrongFalsely : Prop := fnExactPayoutsOfRow.holds Try.pinned (OpenSpec.ofChange fnExactPayoutsOfWrong)

/-- 'laws.FnExactDrawOrder': WHATEVER THE INPUT: true; the input reads as it did. -/
def fnExactDrawOrderSpec : ChangeSpec := { name := "fnExactDrawOrder", fn := fun _ => fun
  | [d1, d2] => { results := [.lit (.bool true)], args := [d1, d2] }
  | _ => none }
def fnExactDrawOrderRow : OpenClaim := { program := "ytcnhjpnidfalpaa", sum := "871f184a777277b8b7b16a097a39039fcc5393b24c92a615852f5fd0f338fbbc", func := "loop.example/savingsclub/laws.FnExactDrawOrder", spec := "fnExactDrawOrder", apart := false }
def FnExactDrawOrderSaid : Prop := fnExactDrawOrderRow.holds Try.pinned (OpenSpec.ofChange fnExactDrawOrderSpec)

/-- ITS FALSE NEIGHBOUR: 'it returns false'. Refute it at one input. -/
def fnExactDrawOrderWrong : ChangeSpec := { name := "fnExactDrawOrder", fn := fun _ => fun
  | [d1, d2] => { results := [.lit (.bool false)], args := [d1, d2] }
  | _ => none }
def FnExactDrawOrderWrongFalsely : Prop := fnExactDrawOrderRow.holds Try.pinned (OpenSpec.ofChange fnExactDrawOrderWrong)

/- THE SECOND FORM. 'bulk': how many values and letters a reading holds, each counted each time it is reached (what is shared counts as often as it is met; a slice's spare places count too). A statement '..UptoSaid' is the law's where the arguments, and the package variables that the reading takes, are together of bulk at most 1048576: NARROWER than '..Said'. Prove '..Said' where nothing that the law and all that it calls make is longer than what came in: it says more and counts as full. Else prove '..UptoSaid'. A law counts once. -/
mutual
def uptoBulk {H : Type} : DataW H → Nat
  | .lit (.string bytes) => bytes.length + 1
  | .lit _ => 1
  | .nil => 1
  | .ptr d => uptoBulk d + 1
  | .slice elems spare => uptoBulkAll elems + uptoBulkAll spare + 1
  | .agg parts => uptoBulkAll parts + 1
  | .iface _ d => uptoBulk d + 1
  | .map entries => uptoBulkEntries entries + 1
  | .held _ => 1
def uptoBulkAll {H : Type} : List (DataW H) → Nat
  | [] => 0
  | d :: r => uptoBulk d + uptoBulkAll r
def uptoBulkEntries {H : Type} : List (Lit × DataW H) → Nat
  | [] => 0
  | x :: r => uptoBulkEntry x + uptoBulkEntries r
def uptoBulkEntry {H : Type} : Lit × DataW H → Nat
  | (.string bytes, d) => bytes.length + uptoBulk d + 1
  | (_, d) => uptoBulk d + 1
 end
def uptoSmall : (H : Type) → List (DataW H) → Bool := fun _ ds => decide (uptoBulkAll ds ≤ 1048576)
def OpenSpec.upto (s : _root_.Go.ChangeSpec) : _root_.Go.OpenSpec := { _root_.Go.OpenSpec.ofChange s with cond := some uptoSmall }

/-- 'laws.FnWinnerOf', WHERE WHAT IT READS IS OF BULK AT MOST 1048576: true; the input reads as it did. -/
def fnWinnerOfUptoRow : OpenClaim := { program := "ytcnhjpnidfalpaa", sum := "871f184a777277b8b7b16a097a39039fcc5393b24c92a615852f5fd0f338fbbc", func := "loop.example/savingsclub/laws.FnWinnerOf", spec := "fnWinnerOf", apart := false, narrowed := true }
def FnWinnerOfUptoSaid : Prop := fnWinnerOfUptoRow.holds Try.pinned (OpenSpec.upto fnWinnerOfSpec)

/-- 'laws.FnOrderAt', WHERE WHAT IT READS IS OF BULK AT MOST 1048576: true; the input reads as it did. -/
def fnOrderAtUptoRow : OpenClaim := { program := "ytcnhjpnidfalpaa", sum := "871f184a777277b8b7b16a097a39039fcc5393b24c92a615852f5fd0f338fbbc", func := "loop.example/savingsclub/laws.FnOrderAt", spec := "fnOrderAt", apart := false, narrowed := true }
def FnOrderAtUptoSaid : Prop := fnOrderAtUptoRow.holds Try.pinned (OpenSpec.upto fnOrderAtSpec)

/-- 'laws.FnBidOrder', WHERE WHAT IT READS IS OF BULK AT MOST 1048576: true; the input reads as it did. -/
def fnBidOrderUptoRow : OpenClaim := { program := "ytcnhjpnidfalpaa", sum := "871f184a777277b8b7b16a097a39039fcc5393b24c92a615852f5fd0f338fbbc", func := "loop.example/savingsclub/laws.FnBidOrder", spec := "fnBidOrder", apart := false, narrowed := true }
def FnBidOrderUptoSaid : Prop := fnBidOrderUptoRow.holds Try.pinned (OpenSpec.upto fnBidOrderSpec)

/-- 'laws.FnRankOrder', WHERE WHAT IT READS IS OF BULK AT MOST 1048576: true; the input reads as it did. -/
def fnRankOrderUptoRow : OpenClaim := { program := "ytcnhjpnidfalpaa", sum := "871f184a777277b8b7b16a097a39039fcc5393b24c92a615852f5fd0f338fbbc", func := "loop.example/savingsclub/laws.FnRankOrder", spec := "fnRankOrder", apart := false, narrowed := true }
def FnRankOrderUptoSaid : Prop := fnRankOrderUptoRow.holds Try.pinned (OpenSpec.upto fnRankOrderSpec)

/-- 'laws.FnExactPayoutsOf', WHERE WHAT IT READS IS OF BULK AT MOST 1048576: true; the input reads as it did. -/
def fnExactPayoutsOfUptoRow : OpenClaim := { program := "ytcnhjpnidfalpaa", sum := "871f184a777277b8b7b16a097a39039fcc5393b24c92a615852f5fd0f338fbbc", func := "loop.example/savingsclub/laws.FnExactPayoutsOf", spec := "fnExactPayoutsOf", apart := false, narrowed := true }
def FnExactPayoutsOfUptoSaid : Prop := fnExactPayoutsOfUptoRow.holds Try.pinned (OpenSpec.upto fnExactPayoutsOfSpec)

/-- 'laws.FnExactDrawOrder', WHERE WHAT IT READS IS OF BULK AT MOST 1048576: true; the input reads as it did. -/
def fnExactDrawOrderUptoRow : OpenClaim := { program := "ytcnhjpnidfalpaa", sum := "871f184a777277b8b7b16a097a39039fcc5393b24c92a615852f5fd0f338fbbc", func := "loop.example/savingsclub/laws.FnExactDrawOrder", spec := "fnExactDrawOrder", apart := false, narrowed := true }
def FnExactDrawOrderUptoSaid : Prop := fnExactDrawOrderUptoRow.holds Try.pinned (OpenSpec.upto fnExactDrawOrderSpec)

end Rows
end Go.Proofs.Ytcnhjpnidfalpaa
