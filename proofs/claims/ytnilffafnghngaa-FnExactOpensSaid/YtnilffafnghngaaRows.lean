/-
  NARROWER THAN 'FOR EVERY INPUT', by the rows' own cells (each row's printed sentence says how): FnExactOpens: loops.
  DERIVED. THE GIVEN ROWS OF THIS SEAT. 6 by the template 'for every input the law returns true; each argument reads behind the call as it read before'; 0 by the template 'total and deterministic' (their statements: YtnilffafnghngaaTotals.lean).
  GIVEN WITH THE SEED: the statements are not yours to turn. If you find one false, say at which input.
  Laid BY PROGRAM, IN A SANDBOX (cutbox-rows.mjs): the forced cells as the released guide's own fill.sh prints them over the translation 3c4f433beb922a38… (all of the seat's roots in one cut). By AI agents, Wed Nov 11 2026. No macro, syntax, notation, axiom, sorry.
-/
import Derived.Test.YtnilffafnghngaaChecked
import GoSem.Claim
import GoSem.ClaimJoined
import GoSem.ClaimMapViews
import Derived.JoinedTies
import Derived.KernelRfl
namespace Go.Proofs.Ytnilffafnghngaa
/- THE CELL 'sum', in the pinned program and in every row, IS THE sha256 OF THE DUMP (.gsa) THAT YtnilffafnghngaaProg.lean LOADS. Nothing in Lean hashes anything: it is a label: what it is worth is what the hold of that sum in a sandbox is worth. -/
noncomputable def Try.pinned : Pinned := { name := "ytnilffafnghngaa", sum := "3c4f433beb922a38de56d1ac5c3e405339c3fc6778a2e70a1b25a87fdc1daaa8", checked := Try.checked }
namespace Rows
def none {H : Type} : Left H := { results := [], args := [] }

/-- 'laws.FnExactAddShares': WHATEVER THE INPUT: true; the input reads as it did. -/
def fnExactAddSharesSpec : ChangeSpec := { name := "fnExactAddShares", fn := fun _ => fun
  | [d1, d2] => { results := [.lit (.bool true)], args := [d1, d2] }
  | _ => none }
def fnExactAddSharesRow : OpenClaim := { program := "ytnilffafnghngaa", sum := "3c4f433beb922a38de56d1ac5c3e405339c3fc6778a2e70a1b25a87fdc1daaa8", func := "loop.example/savingsclub/laws.FnExactAddShares", spec := "fnExactAddShares", apart := false }
def FnExactAddSharesSaid : Prop := fnExactAddSharesRow.holds Try.pinned (OpenSpec.ofChange fnExactAddSharesSpec)

/-- ITS FALSE NEIGHBOUR: 'it returns false'. Refute it at one input. -/
def fnExactAddSharesWrong : ChangeSpec := { name := "fnExactAddShares", fn := fun _ => fun
  | [d1, d2] => { results := [.lit (.bool false)], args := [d1, d2] }
  | _ => none }
def FnExactAddSharesWrongFalsely : Prop := fnExactAddSharesRow.holds Try.pinned (OpenSpec.ofChange fnExactAddSharesWrong)

/-- 'laws.FnExactDealShares': WHATEVER THE INPUT: true; the input reads as it did. -/
def fnExactDealSharesSpec : ChangeSpec := { name := "fnExactDealShares", fn := fun _ => fun
  | [d1, d2] => { results := [.lit (.bool true)], args := [d1, d2] }
  | _ => none }
def fnExactDealSharesRow : OpenClaim := { program := "ytnilffafnghngaa", sum := "3c4f433beb922a38de56d1ac5c3e405339c3fc6778a2e70a1b25a87fdc1daaa8", func := "loop.example/savingsclub/laws.FnExactDealShares", spec := "fnExactDealShares", unfollowed := true, recurses := true, apart := false }
def FnExactDealSharesSaid : Prop := fnExactDealSharesRow.holds Try.pinned (OpenSpec.ofChange fnExactDealSharesSpec)

/-- ITS FALSE NEIGHBOUR: 'it returns false'. Refute it at one input. -/
def fnExactDealSharesWrong : ChangeSpec := { name := "fnExactDealShares", fn := fun _ => fun
  | [d1, d2] => { results := [.lit (.bool false)], args := [d1, d2] }
  | _ => none }
def FnExactDealSharesWrongFalsely : Prop := fnExactDealSharesRow.holds Try.pinned (OpenSpec.ofChange fnExactDealSharesWrong)

/-- 'laws.FnOpens': WHATEVER THE INPUT: true; the input reads as it did. -/
def fnOpensSpec : ChangeSpec := { name := "fnOpens", fn := fun _ => fun
  | [d] => { results := [.lit (.bool true)], args := [d] }
  | _ => none }
def fnOpensRow : OpenClaim := { program := "ytnilffafnghngaa", sum := "3c4f433beb922a38de56d1ac5c3e405339c3fc6778a2e70a1b25a87fdc1daaa8", func := "loop.example/savingsclub/laws.FnOpens", spec := "fnOpens", recurses := true, apart := false }
def FnOpensSaid : Prop := fnOpensRow.holds Try.pinned (OpenSpec.ofChange fnOpensSpec)

/-- ITS FALSE NEIGHBOUR: 'it returns false'. Refute it at one input. -/
def fnOpensWrong : ChangeSpec := { name := "fnOpens", fn := fun _ => fun
  | [d] => { results := [.lit (.bool false)], args := [d] }
  | _ => none }
def FnOpensWrongFalsely : Prop := fnOpensRow.holds Try.pinned (OpenSpec.ofChange fnOpensWrong)

/-- 'laws.FnExactOpenSecret': WHATEVER THE INPUT: true; the input reads as it did. -/
def fnExactOpenSecretSpec : ChangeSpec := { name := "fnExactOpenSecret", fn := fun _ => fun
  | [d] => { results := [.lit (.bool true)], args := [d] }
  | _ => none }
def fnExactOpenSecretRow : OpenClaim := { program := "ytnilffafnghngaa", sum := "3c4f433beb922a38de56d1ac5c3e405339c3fc6778a2e70a1b25a87fdc1daaa8", func := "loop.example/savingsclub/laws.FnExactOpenSecret", spec := "fnExactOpenSecret", unfollowed := true, recurses := true, apart := false }
def FnExactOpenSecretSaid : Prop := fnExactOpenSecretRow.holds Try.pinned (OpenSpec.ofChange fnExactOpenSecretSpec)

/-- ITS FALSE NEIGHBOUR: 'it returns false'. Refute it at one input. -/
def fnExactOpenSecretWrong : ChangeSpec := { name := "fnExactOpenSecret", fn := fun _ => fun
  | [d] => { results := [.lit (.bool false)], args := [d] }
  | _ => none }
def FnExactOpenSecretWrongFalsely : Prop := fnExactOpenSecretRow.holds Try.pinned (OpenSpec.ofChange fnExactOpenSecretWrong)

/-- 'laws.FnExactOpens': WHATEVER THE INPUT: true; the input reads as it did. -/
def fnExactOpensSpec : ChangeSpec := { name := "fnExactOpens", fn := fun _ => fun
  | [d1, d2] => { results := [.lit (.bool true)], args := [d1, d2] }
  | _ => none }
def fnExactOpensRow : OpenClaim := { program := "ytnilffafnghngaa", sum := "3c4f433beb922a38de56d1ac5c3e405339c3fc6778a2e70a1b25a87fdc1daaa8", func := "loop.example/savingsclub/laws.FnExactOpens", spec := "fnExactOpens", recurses := true, loops := true, apart := false }
def FnExactOpensSaid : Prop := fnExactOpensRow.holds Try.pinned (OpenSpec.ofChange fnExactOpensSpec)

/-- ITS FALSE NEIGHBOUR: 'it returns false'. Refute it at one input. -/
def fnExactOpensWrong : ChangeSpec := { name := "fnExactOpens", fn := fun _ => fun
  | [d1, d2] => { results := [.lit (.bool false)], args := [d1, d2] }
  | _ => none }
def FnExactOpensWrongFalsely : Prop := fnExactOpensRow.holds Try.pinned (OpenSpec.ofChange fnExactOpensWrong)

/-- 'laws.FnExactRefreshShares': WHATEVER THE INPUT: true; the input reads as it did. -/
def fnExactRefreshSharesSpec : ChangeSpec := { name := "fnExactRefreshShares", fn := fun _ => fun
  | [d1, d2] => { results := [.lit (.bool true)], args := [d1, d2] }
  | _ => none }
def fnExactRefreshSharesRow : OpenClaim := { program := "ytnilffafnghngaa", sum := "3c4f433beb922a38de56d1ac5c3e405339c3fc6778a2e70a1b25a87fdc1daaa8", func := "loop.example/savingsclub/laws.FnExactRefreshShares", spec := "fnExactRefreshShares", unfollowed := true, recurses := true, apart := false }
def FnExactRefreshSharesSaid : Prop := fnExactRefreshSharesRow.holds Try.pinned (OpenSpec.ofChange fnExactRefreshSharesSpec)

/-- ITS FALSE NEIGHBOUR: 'it returns false'. Refute it at one input. -/
def fnExactRefreshSharesWrong : ChangeSpec := { name := "fnExactRefreshShares", fn := fun _ => fun
  | [d1, d2] => { results := [.lit (.bool false)], args := [d1, d2] }
  | _ => none }
def FnExactRefreshSharesWrongFalsely : Prop := fnExactRefreshSharesRow.holds Try.pinned (OpenSpec.ofChange fnExactRefreshSharesWrong)

/- THE SECOND FORM. 'bulk': how many values and letters a reading holds, each counted each time it is reached (what is shared counts as often as it is met; a slice's spare places count too). A statement '..UptoSaid' is the law's where the arguments, and the package variables that the reading takes, are together of bulk at most 1048576: NARROWER than '..Said'. Prove '..Said' where nothing that the law and all that it calls make is longer than what came in: it says more and counts as full. Else prove '..UptoSaid'. A law counts once. -/
mutual
def uptoBulk {H : Type} : DataW H → Nat
  | .lit (.string bytes) => bytes.length + 1
  | .lit _ => 1
  | .nil => 1
  | .ptr d => uptoBulk d + 1
  | .slice elems spare => uptoBulkAll elems + uptoBulkAll spare + 1
  | .agg parts => uptoBulkAll parts + 1
  | .iface _ d => uptoBulk d + 1
  | .map entries => uptoBulkEntries entries + 1
  | .held _ => 1
def uptoBulkAll {H : Type} : List (DataW H) → Nat
  | [] => 0
  | d :: r => uptoBulk d + uptoBulkAll r
def uptoBulkEntries {H : Type} : List (Lit × DataW H) → Nat
  | [] => 0
  | x :: r => uptoBulkEntry x + uptoBulkEntries r
def uptoBulkEntry {H : Type} : Lit × DataW H → Nat
  | (.string bytes, d) => bytes.length + uptoBulk d + 1
  | (_, d) => uptoBulk d + 1
 end
def uptoSmall : (H : Type) → List (DataW H) → Bool := fun _ ds => decide (uptoBulkAll ds ≤ 1048576)
def OpenSpec.upto (s : _root_.Go.ChangeSpec) : _root_.Go.OpenSpec := { _root_.Go.OpenSpec.ofChange s with cond := some uptoSmall }

/-- 'laws.FnExactAddShares', WHERE WHAT IT READS IS OF BULK AT MOST 1048576: true; the input reads as it did. -/
def fnExactAddSharesUptoRow : OpenClaim := { program := "ytnilffafnghngaa", sum := "3c4f433beb922a38de56d1ac5c3e405339c3fc6778a2e70a1b25a87fdc1daaa8", func := "loop.example/savingsclub/laws.FnExactAddShares", spec := "fnExactAddShares", apart := false, narrowed := true }
def FnExactAddSharesUptoSaid : Prop := fnExactAddSharesUptoRow.holds Try.pinned (OpenSpec.upto fnExactAddSharesSpec)

/-- 'laws.FnExactDealShares', WHERE WHAT IT READS IS OF BULK AT MOST 1048576: true; the input reads as it did. -/
def fnExactDealSharesUptoRow : OpenClaim := { program := "ytnilffafnghngaa", sum := "3c4f433beb922a38de56d1ac5c3e405339c3fc6778a2e70a1b25a87fdc1daaa8", func := "loop.example/savingsclub/laws.FnExactDealShares", spec := "fnExactDealShares", unfollowed := true, recurses := true, apart := false, narrowed := true }
def FnExactDealSharesUptoSaid : Prop := fnExactDealSharesUptoRow.holds Try.pinned (OpenSpec.upto fnExactDealSharesSpec)

/-- 'laws.FnOpens', WHERE WHAT IT READS IS OF BULK AT MOST 1048576: true; the input reads as it did. -/
def fnOpensUptoRow : OpenClaim := { program := "ytnilffafnghngaa", sum := "3c4f433beb922a38de56d1ac5c3e405339c3fc6778a2e70a1b25a87fdc1daaa8", func := "loop.example/savingsclub/laws.FnOpens", spec := "fnOpens", recurses := true, apart := false, narrowed := true }
def FnOpensUptoSaid : Prop := fnOpensUptoRow.holds Try.pinned (OpenSpec.upto fnOpensSpec)

/-- 'laws.FnExactOpenSecret', WHERE WHAT IT READS IS OF BULK AT MOST 1048576: true; the input reads as it did. -/
def fnExactOpenSecretUptoRow : OpenClaim := { program := "ytnilffafnghngaa", sum := "3c4f433beb922a38de56d1ac5c3e405339c3fc6778a2e70a1b25a87fdc1daaa8", func := "loop.example/savingsclub/laws.FnExactOpenSecret", spec := "fnExactOpenSecret", unfollowed := true, recurses := true, apart := false, narrowed := true }
def FnExactOpenSecretUptoSaid : Prop := fnExactOpenSecretUptoRow.holds Try.pinned (OpenSpec.upto fnExactOpenSecretSpec)

/-- 'laws.FnExactOpens', WHERE WHAT IT READS IS OF BULK AT MOST 1048576: true; the input reads as it did. -/
def fnExactOpensUptoRow : OpenClaim := { program := "ytnilffafnghngaa", sum := "3c4f433beb922a38de56d1ac5c3e405339c3fc6778a2e70a1b25a87fdc1daaa8", func := "loop.example/savingsclub/laws.FnExactOpens", spec := "fnExactOpens", recurses := true, loops := true, apart := false, narrowed := true }
def FnExactOpensUptoSaid : Prop := fnExactOpensUptoRow.holds Try.pinned (OpenSpec.upto fnExactOpensSpec)

/-- 'laws.FnExactRefreshShares', WHERE WHAT IT READS IS OF BULK AT MOST 1048576: true; the input reads as it did. -/
def fnExactRefreshSharesUptoRow : OpenClaim := { program := "ytnilffafnghngaa", sum := "3c4f433beb922a38de56d1ac5c3e405339c3fc6778a2e70a1b25a87fdc1daaa8", func := "loop.example/savingsclub/laws.FnExactRefreshShares", spec := "fnExactRefreshShares", unfollowed := true, recurses := true, apart := false, narrowed := true }
def FnExactRefreshSharesUptoSaid : Prop := fnExactRefreshSharesUptoRow.holds Try.pinned (OpenSpec.upto fnExactRefreshSharesSpec)

end Rows
end Go.Proofs.Ytnilffafnghngaa
