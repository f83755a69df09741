/-
  No cell of these rows narrows 'for every input' (looked for: loops, veiled, ifaces, maps, wideKeys, modest, calm, conditions, laid).
  DERIVED. THE GIVEN ROWS OF THIS SEAT. 11 by the template 'for every input the law returns true; each argument reads behind the call as it read before'; 0 by the template 'total and deterministic' (their statements: YtkbgcnpjamadeaaTotals.lean).
  GIVEN WITH THE SEED: the statements are not yours to turn. If you find one false, say at which input.
  Laid BY PROGRAM, IN A SANDBOX (cutbox-rows.mjs): the forced cells as the released guide's own fill.sh prints them over the translation 47353927bfd36c53… (all of the seat's roots in one cut). By AI agents, Wed Nov 11 2026. No macro, syntax, notation, axiom, sorry.
-/
import Derived.Test.YtkbgcnpjamadeaaChecked
import GoSem.Claim
import GoSem.ClaimJoined
import GoSem.ClaimMapViews
import Derived.JoinedTies
import Derived.KernelRfl
namespace Go.Proofs.Ytkbgcnpjamadeaa
/- THE CELL 'sum', in the pinned program and in every row, IS THE sha256 OF THE DUMP (.gsa) THAT YtkbgcnpjamadeaaProg.lean LOADS. Nothing in Lean hashes anything: it is a label: what it is worth is what the hold of that sum in a sandbox is worth. -/
noncomputable def Try.pinned : Pinned := { name := "ytkbgcnpjamadeaa", sum := "47353927bfd36c537182c17abaa32cd0750ee8030c14139edf042ae5d7c5a689", checked := Try.checked }
namespace Rows
def none {H : Type} : Left H := { results := [], args := [] }

/-- 'laws.FnPasses': WHATEVER THE INPUT: true; the input reads as it did. -/
def fnPassesSpec : ChangeSpec := { name := "fnPasses", fn := fun _ => fun
  | [d] => { results := [.lit (.bool true)], args := [d] }
  | _ => none }
def fnPassesRow : OpenClaim := { program := "ytkbgcnpjamadeaa", sum := "47353927bfd36c537182c17abaa32cd0750ee8030c14139edf042ae5d7c5a689", func := "loop.example/savingsclub/laws.FnPasses", spec := "fnPasses", apart := false }
def FnPassesSaid : Prop := fnPassesRow.holds Try.pinned (OpenSpec.ofChange fnPassesSpec)

/-- ITS FALSE NEIGHBOUR: 'it returns false'. Refute it at one input. -/
def fnPassesWrong : ChangeSpec := { name := "fnPasses", fn := fun _ => fun
  | [d] => { results := [.lit (.bool false)], args := [d] }
  | _ => none }
def FnPassesWrongFalsely : Prop := fnPassesRow.holds Try.pinned (OpenSpec.ofChange fnPassesWrong)

/-- 'laws.FnExactWins': WHATEVER THE INPUT: true; the input reads as it did. -/
def fnExactWinsSpec : ChangeSpec := { name := "fnExactWins", fn := fun _ => fun
  | [d1, d2] => { results := [.lit (.bool true)], args := [d1, d2] }
  | _ => none }
def fnExactWinsRow : OpenClaim := { program := "ytkbgcnpjamadeaa", sum := "47353927bfd36c537182c17abaa32cd0750ee8030c14139edf042ae5d7c5a689", func := "loop.example/savingsclub/laws.FnExactWins", spec := "fnExactWins", apart := false }
def FnExactWinsSaid : Prop := fnExactWinsRow.holds Try.pinned (OpenSpec.ofChange fnExactWinsSpec)

/-- ITS FALSE NEIGHBOUR: 'it returns false'. Refute it at one input. -/
def fnExactWinsWrong : ChangeSpec := { name := "fnExactWins", fn := fun _ => fun
  | [d1, d2] => { results := [.lit (.bool false)], args := [d1, d2] }
  | _ => none }
def FnExactWinsWrongFalsely : Prop := fnExactWinsRow.holds Try.pinned (OpenSpec.ofChange fnExactWinsWrong)

/-- 'laws.FnPassesWins': WHATEVER THE INPUT: true; the input reads as it did. -/
def fnPassesWinsSpec : ChangeSpec := { name := "fnPassesWins", fn := fun _ => fun
  | [d] => { results := [.lit (.bool true)], args := [d] }
  | _ => none }
def fnPassesWinsRow : OpenClaim := { program := "ytkbgcnpjamadeaa", sum := "47353927bfd36c537182c17abaa32cd0750ee8030c14139edf042ae5d7c5a689", func := "loop.example/savingsclub/laws.FnPassesWins", spec := "fnPassesWins", apart := false }
def FnPassesWinsSaid : Prop := fnPassesWinsRow.holds Try.pinned (OpenSpec.ofChange fnPassesWinsSpec)

/-- ITS FALSE NEIGHBOUR: 'it returns false'. Refute it at one input. -/
def fnPassesWinsWrong : ChangeSpec := { name := "fnPassesWins", fn := fun _ => fun
  | [d] => { results := [.lit (.bool false)], args := [d] }
  | _ => none }
def FnPassesWinsWrongFalsely : Prop := fnPassesWinsRow.holds Try.pinned (OpenSpec.ofChange fnPassesWinsWrong)

/-- 'laws.FnMergeMembers': WHATEVER THE INPUT: true; the input reads as it did. -/
def fnMergeMembersSpec : ChangeSpec := { name := "fnMergeMembers", fn := fun _ => fun
  | [d] => { results := [.lit (.bool true)], args := [d] }
  | _ => none }
def fnMergeMembersRow : OpenClaim := { program := "ytkbgcnpjamadeaa", sum := "47353927bfd36c537182c17abaa32cd0750ee8030c14139edf042ae5d7c5a689", func := "loop.example/savingsclub/laws.FnMergeMembers", spec := "fnMergeMembers", apart := false }
def FnMergeMembersSaid : Prop := fnMergeMembersRow.holds Try.pinned (OpenSpec.ofChange fnMergeMembersSpec)

/-- ITS FALSE NEIGHBOUR: 'it returns false'. Refute it at one input. -/
def fnMergeMembersWrong : ChangeSpec := { name := "fnMergeMembers", fn := fun _ => fun
  | [d] => { results := [.lit (.bool false)], args := [d] }
  | _ => none }
def FnMergeMembersWrongFalsely : Prop := fnMergeMembersRow.holds Try.pinned (OpenSpec.ofChange fnMergeMembersWrong)

/-- 'laws.FnExactMergeMembers': WHATEVER THE INPUT: true; the input reads as it did. -/
def fnExactMergeMembersSpec : ChangeSpec := { name := "fnExactMergeMembers", fn := fun _ => fun
  | [d1, d2, d3] => { results := [.lit (.bool true)], args := [d1, d2, d3] }
  | _ => none }
def fnExactMergeMembersRow : OpenClaim := { program := "ytkbgcnpjamadeaa", sum := "47353927bfd36c537182c17abaa32cd0750ee8030c14139edf042ae5d7c5a689", func := "loop.example/savingsclub/laws.FnExactMergeMembers", spec := "fnExactMergeMembers", apart := false }
def FnExactMergeMembersSaid : Prop := fnExactMergeMembersRow.holds Try.pinned (OpenSpec.ofChange fnExactMergeMembersSpec)

/-- ITS FALSE NEIGHBOUR: 'it returns false'. Refute it at one input. -/
def fnExactMergeMembersWrong : ChangeSpec := { name := "fnExactMergeMembers", fn := fun _ => fun
  | [d1, d2, d3] => { results := [.lit (.bool false)], args := [d1, d2, d3] }
  | _ => none }
def FnExactMergeMembersWrongFalsely : Prop := fnExactMergeMembersRow.holds Try.pinned (OpenSpec.ofChange fnExactMergeMembersWrong)

/-- 'laws.FnExactSwingsOf': WHATEVER THE INPUT: true; the input reads as it did. -/
def fnExactSwingsOfSpec : ChangeSpec := { name := "fnExactSwingsOf", fn := fun _ => fun
  | [d] => { results := [.lit (.bool true)], args := [d] }
  | _ => none }
def fnExactSwingsOfRow : OpenClaim := { program := "ytkbgcnpjamadeaa", sum := "47353927bfd36c537182c17abaa32cd0750ee8030c14139edf042ae5d7c5a689", func := "loop.example/savingsclub/laws.FnExactSwingsOf", spec := "fnExactSwingsOf", unfollowed := true, recurses := true, apart := false }
def FnExactSwingsOfSaid : Prop := fnExactSwingsOfRow.holds Try.pinned (OpenSpec.ofChange fnExactSwingsOfSpec)

/-- ITS FALSE NEIGHBOUR: 'it returns false'. Refute it at one input. -/
def fnExactSwingsOfWrong : ChangeSpec := { name := "fnExactSwingsOf", fn := fun _ => fun
  | [d] => { results := [.lit (.bool false)], args := [d] }
  | _ => none }
def FnExactSwingsOfWrongFalsely : Prop := fnExactSwingsOfRow.holds Try.pinned (OpenSpec.ofChange fnExactSwingsOfWrong)

/-- 'laws.FnWins': WHATEVER THE INPUT: true; the input reads as it did. -/
def fnWinsSpec : ChangeSpec := { name := "fnWins", fn := fun _ => fun
  | [d] => { results := [.lit (.bool true)], args := [d] }
  | _ => none }
def fnWinsRow : OpenClaim := { program := "ytkbgcnpjamadeaa", sum := "47353927bfd36c537182c17abaa32cd0750ee8030c14139edf042ae5d7c5a689", func := "loop.example/savingsclub/laws.FnWins", spec := "fnWins", apart := false }
def FnWinsSaid : Prop := fnWinsRow.holds Try.pinned (OpenSpec.ofChange fnWinsSpec)

/-- ITS FALSE NEIGHBOUR: 'it returns false'. Refute it at one input. -/
def fnWinsWrong : ChangeSpec := { name := "fnWins", fn := fun _ => fun
  | [d] => { results := [.lit (.bool false)], args := [d] }
  | _ => none }
def FnWinsWrongFalsely : Prop := fnWinsRow.holds Try.pinned (OpenSpec.ofChange fnWinsWrong)

/-- 'laws.FnSwingsOf': WHATEVER THE INPUT: true; the input reads as it did. -/
def fnSwingsOfSpec : ChangeSpec := { name := "fnSwingsOf", fn := fun _ => fun
  | [d] => { results := [.lit (.bool true)], args := [d] }
  | _ => none }
def fnSwingsOfRow : OpenClaim := { program := "ytkbgcnpjamadeaa", sum := "47353927bfd36c537182c17abaa32cd0750ee8030c14139edf042ae5d7c5a689", func := "loop.example/savingsclub/laws.FnSwingsOf", spec := "fnSwingsOf", unfollowed := true, recurses := true, apart := false }
def FnSwingsOfSaid : Prop := fnSwingsOfRow.holds Try.pinned (OpenSpec.ofChange fnSwingsOfSpec)

/-- ITS FALSE NEIGHBOUR: 'it returns false'. Refute it at one input. -/
def fnSwingsOfWrong : ChangeSpec := { name := "fnSwingsOf", fn := fun _ => fun
  | [d] => { results := [.lit (.bool false)], args := [d] }
  | _ => none }
def FnSwingsOfWrongFalsely : Prop := fnSwingsOfRow.holds Try.pinned (OpenSpec.ofChange fnSwingsOfWrong)

/-- 'laws.FnWinsDual': WHATEVER THE INPUT: true; the input reads as it did. -/
def fnWinsDualSpec : ChangeSpec := { name := "fnWinsDual", fn := fun _ => fun
  | [d] => { results := [.lit (.bool true)], args := [d] }
  | _ => none }
def fnWinsDualRow : OpenClaim := { program := "ytkbgcnpjamadeaa", sum := "47353927bfd36c537182c17abaa32cd0750ee8030c14139edf042ae5d7c5a689", func := "loop.example/savingsclub/laws.FnWinsDual", spec := "fnWinsDual", apart := false }
def FnWinsDualSaid : Prop := fnWinsDualRow.holds Try.pinned (OpenSpec.ofChange fnWinsDualSpec)

/-- ITS FALSE NEIGHBOUR: 'it returns false'. Refute it at one input. -/
def fnWinsDualWrong : ChangeSpec := { name := "fnWinsDual", fn := fun _ => fun
  | [d] => { results := [.lit (.bool false)], args := [d] }
  | _ => none }
def FnWinsDualWrongFalsely : Prop := fnWinsDualRow.holds Try.pinned (OpenSpec.ofChange fnWinsDualWrong)

/-- 'laws.FnVetoes': WHATEVER THE INPUT: true; the input reads as it did. -/
def fnVetoesSpec : ChangeSpec := { name := "fnVetoes", fn := fun _ => fun
  | [d] => { results := [.lit (.bool true)], args := [d] }
  | _ => none }
def fnVetoesRow : OpenClaim := { program := "ytkbgcnpjamadeaa", sum := "47353927bfd36c537182c17abaa32cd0750ee8030c14139edf042ae5d7c5a689", func := "loop.example/savingsclub/laws.FnVetoes", spec := "fnVetoes", apart := false }
def FnVetoesSaid : Prop := fnVetoesRow.holds Try.pinned (OpenSpec.ofChange fnVetoesSpec)

/-- ITS FALSE NEIGHBOUR: 'it returns false'. Refute it at one input. -/
def fnVetoesWrong : ChangeSpec := { name := "fnVetoes", fn := fun _ => fun
  | [d] => { results := [.lit (.bool false)], args := [d] }
  | _ => none }
def FnVetoesWrongFalsely : Prop := fnVetoesRow.holds Try.pinned (OpenSpec.ofChange fnVetoesWrong)

/-- 'laws.FnExactDummies': WHATEVER THE INPUT: true; the input reads as it did. -/
def fnExactDummiesSpec : ChangeSpec := { name := "fnExactDummies", fn := fun _ => fun
  | [d] => { results := [.lit (.bool true)], args := [d] }
  | _ => none }
def fnExactDummiesRow : OpenClaim := { program := "ytkbgcnpjamadeaa", sum := "47353927bfd36c537182c17abaa32cd0750ee8030c14139edf042ae5d7c5a689", func := "loop.example/savingsclub/laws.FnExactDummies", spec := "fnExactDummies", unfollowed := true, recurses := true, apart := false }
def FnExactDummiesSaid : Prop := fnExactDummiesRow.holds Try.pinned (OpenSpec.ofChange fnExactDummiesSpec)

/-- ITS FALSE NEIGHBOUR: 'it returns false'. Refute it at one input. -/
def fnExactDummiesWrong : ChangeSpec := { name := "fnExactDummies", fn := fun _ => fun
  | [d] => { results := [.lit (.bool false)], args := [d] }
  | _ => none }
def FnExactDummiesWrongFalsely : Prop := fnExactDummiesRow.holds Try.pinned (OpenSpec.ofChange fnExactDummiesWrong)

/- THE SECOND FORM. 'bulk': how many values and letters a reading holds, each counted each time it is reached (what is shared counts as often as it is met; a slice's spare places count too). A statement '..UptoSaid' is the law's where the arguments, and the package variables that the reading takes, are together of bulk at most 1048576: NARROWER than '..Said'. Prove '..Said' where nothing that the law and all that it calls make is longer than what came in: it says more and counts as full. Else prove '..UptoSaid'. A law counts once. -/
mutual
def uptoBulk {H : Type} : DataW H → Nat
  | .lit (.string bytes) => bytes.length + 1
  | .lit _ => 1
  | .nil => 1
  | .ptr d => uptoBulk d + 1
  | .slice elems spare => uptoBulkAll elems + uptoBulkAll spare + 1
  | .agg parts => uptoBulkAll parts + 1
  | .iface _ d => uptoBulk d + 1
  | .map entries => uptoBulkEntries entries + 1
  | .held _ => 1
def uptoBulkAll {H : Type} : List (DataW H) → Nat
  | [] => 0
  | d :: r => uptoBulk d + uptoBulkAll r
def uptoBulkEntries {H : Type} : List (Lit × DataW H) → Nat
  | [] => 0
  | x :: r => uptoBulkEntry x + uptoBulkEntries r
def uptoBulkEntry {H : Type} : Lit × DataW H → Nat
  | (.string bytes, d) => bytes.length + uptoBulk d + 1
  | (_, d) => uptoBulk d + 1
 end
def uptoSmall : (H : Type) → List (DataW H) → Bool := fun _ ds => decide (uptoBulkAll ds ≤ 1048576)
def OpenSpec.upto (s : _root_.Go.ChangeSpec) : _root_.Go.OpenSpec := { _root_.Go.OpenSpec.ofChange s with cond := some uptoSmall }

/-- 'laws.FnPasses', WHERE WHAT IT READS IS OF BULK AT MOST 1048576: true; the input reads as it did. -/
def fnPassesUptoRow : OpenClaim := { program := "ytkbgcnpjamadeaa", sum := "47353927bfd36c537182c17abaa32cd0750ee8030c14139edf042ae5d7c5a689", func := "loop.example/savingsclub/laws.FnPasses", spec := "fnPasses", apart := false, narrowed := true }
def FnPassesUptoSaid : Prop := fnPassesUptoRow.holds Try.pinned (OpenSpec.upto fnPassesSpec)

/-- 'laws.FnExactWins', WHERE WHAT IT READS IS OF BULK AT MOST 1048576: true; the input reads as it did. -/
def fnExactWinsUptoRow : OpenClaim := { program := "ytkbgcnpjamadeaa", sum := "47353927bfd36c537182c17abaa32cd0750ee8030c14139edf042ae5d7c5a689", func := "loop.example/savingsclub/laws.FnExactWins", spec := "fnExactWins", apart := false, narrowed := true }
def FnExactWinsUptoSaid : Prop := fnExactWinsUptoRow.holds Try.pinned (OpenSpec.upto fnExactWinsSpec)

/-- 'laws.FnPassesWins', WHERE WHAT IT READS IS OF BULK AT MOST 1048576: true; the input reads as it did. -/
def fnPassesWinsUptoRow : OpenClaim := { program := "ytkbgcnpjamadeaa", sum := "47353927bfd36c537182c17abaa32cd0750ee8030c14139edf042ae5d7c5a689", func := "loop.example/savingsclub/laws.FnPassesWins", spec := "fnPassesWins", apart := false, narrowed := true }
def FnPassesWinsUptoSaid : Prop := fnPassesWinsUptoRow.holds Try.pinned (OpenSpec.upto fnPassesWinsSpec)

/-- 'laws.FnMergeMembers', WHERE WHAT IT READS IS OF BULK AT MOST 1048576: true; the input reads as it did. -/
def fnMergeMembersUptoRow : OpenClaim := { program := "ytkbgcnpjamadeaa", sum := "47353927bfd36c537182c17abaa32cd0750ee8030c14139edf042ae5d7c5a689", func := "loop.example/savingsclub/laws.FnMergeMembers", spec := "fnMergeMembers", apart := false, narrowed := true }
def FnMergeMembersUptoSaid : Prop := fnMergeMembersUptoRow.holds Try.pinned (OpenSpec.upto fnMergeMembersSpec)

/-- 'laws.FnExactMergeMembers', WHERE WHAT IT READS IS OF BULK AT MOST 1048576: true; the input reads as it did. -/
def fnExactMergeMembersUptoRow : OpenClaim := { program := "ytkbgcnpjamadeaa", sum := "47353927bfd36c537182c17abaa32cd0750ee8030c14139edf042ae5d7c5a689", func := "loop.example/savingsclub/laws.FnExactMergeMembers", spec := "fnExactMergeMembers", apart := false, narrowed := true }
def FnExactMergeMembersUptoSaid : Prop := fnExactMergeMembersUptoRow.holds Try.pinned (OpenSpec.upto fnExactMergeMembersSpec)

/-- 'laws.FnExactSwingsOf', WHERE WHAT IT READS IS OF BULK AT MOST 1048576: true; the input reads as it did. -/
def fnExactSwingsOfUptoRow : OpenClaim := { program := "ytkbgcnpjamadeaa", sum := "47353927bfd36c537182c17abaa32cd0750ee8030c14139edf042ae5d7c5a689", func := "loop.example/savingsclub/laws.FnExactSwingsOf", spec := "fnExactSwingsOf", unfollowed := true, recurses := true, apart := false, narrowed := true }
def FnExactSwingsOfUptoSaid : Prop := fnExactSwingsOfUptoRow.holds Try.pinned (OpenSpec.upto fnExactSwingsOfSpec)

/-- 'laws.FnWins', WHERE WHAT IT READS IS OF BULK AT MOST 1048576: true; the input reads as it did. -/
def fnWinsUptoRow : OpenClaim := { program := "ytkbgcnpjamadeaa", sum := "47353927bfd36c537182c17abaa32cd0750ee8030c14139edf042ae5d7c5a689", func := "loop.example/savingsclub/laws.FnWins", spec := "fnWins", apart := false, narrowed := true }
def FnWinsUptoSaid : Prop := fnWinsUptoRow.holds Try.pinned (OpenSpec.upto fnWinsSpec)

/-- 'laws.FnSwingsOf', WHERE WHAT IT READS IS OF BULK AT MOST 1048576: true; the input reads as it did. -/
def fnSwingsOfUptoRow : OpenClaim := { program := "ytkbgcnpjamadeaa", sum := "47353927bfd36c537182c17abaa32cd0750ee8030c14139edf042ae5d7c5a689", func := "loop.example/savingsclub/laws.FnSwingsOf", spec := "fnSwingsOf", unfollowed := true, recurses := true, apart := false, narrowed := true }
def FnSwingsOfUptoSaid : Prop := fnSwingsOfUptoRow.holds Try.pinned (OpenSpec.upto fnSwingsOfSpec)

/-- 'laws.FnWinsDual', WHERE WHAT IT READS IS OF BULK AT MOST 1048576: true; the input reads as it did. -/
def fnWinsDualUptoRow : OpenClaim := { program := "ytkbgcnpjamadeaa", sum := "47353927bfd36c537182c17abaa32cd0750ee8030c14139edf042ae5d7c5a689", func := "loop.example/savingsclub/laws.FnWinsDual", spec := "fnWinsDual", apart := false, narrowed := true }
def FnWinsDualUptoSaid : Prop := fnWinsDualUptoRow.holds Try.pinned (OpenSpec.upto fnWinsDualSpec)

/-- 'laws.FnVetoes', WHERE WHAT IT READS IS OF BULK AT MOST 1048576: true; the input reads as it did. -/
def fnVetoesUptoRow : OpenClaim := { program := "ytkbgcnpjamadeaa", sum := "47353927bfd36c537182c17abaa32cd0750ee8030c14139edf042ae5d7c5a689", func := "loop.example/savingsclub/laws.FnVetoes", spec := "fnVetoes", apart := false, narrowed := true }
def FnVetoesUptoSaid : Prop := fnVetoesUptoRow.holds Try.pinned (OpenSpec.upto fnVetoesSpec)

/-- 'laws.FnExactDummies', WHERE WHAT IT READS IS OF BULK AT MOST 1048576: true; the input reads as it did. -/
def fnExactDummiesUptoRow : OpenClaim := { program := "ytkbgcnpjamadeaa", sum := "47353927bfd36c537182c17abaa32cd0750ee8030c14139edf042ae5d7c5a689", func := "loop.example/savingsclub/laws.FnExactDummies", spec := "fnExactDummies", unfollowed := true, recurses := true, apart := false, narrowed := true }
def FnExactDummiesUptoSaid : Prop := fnExactDummiesUptoRow.holds Try.pinned (OpenSpec.upto fnExactDummiesSpec)

end Rows
end Go.Proofs.Ytkbgcnpjamadeaa
