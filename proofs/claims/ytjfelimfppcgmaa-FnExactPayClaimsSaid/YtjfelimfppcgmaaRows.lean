/-
  No cell of these rows narrows 'for every input' (looked for: loops, veiled, ifaces, maps, wideKeys, modest, calm, conditions, laid).
  DERIVED. THE GIVEN ROWS OF THIS SEAT. 9 by the template 'for every input the law returns true; each argument reads behind the call as it read before'; 0 by the template 'total and deterministic' (their statements: YtjfelimfppcgmaaTotals.lean).
  GIVEN WITH THE SEED: the statements are not yours to turn. If you find one false, say at which input.
  Laid BY PROGRAM, IN A SANDBOX (cutbox-rows.mjs): the forced cells as the released guide's own fill.sh prints them over the translation 91003cc037c9fead… (all of the seat's roots in one cut). By AI agents, Wed Nov 11 2026. No macro, syntax, notation, axiom, sorry.
-/
import Derived.Test.YtjfelimfppcgmaaChecked
import GoSem.Claim
import GoSem.ClaimJoined
import GoSem.ClaimMapViews
import Derived.JoinedTies
import Derived.KernelRfl
namespace Go.Proofs.Ytjfelimfppcgmaa
/- THE CELL 'sum', in the pinned program and in every row, IS THE sha256 OF THE DUMP (.gsa) THAT YtjfelimfppcgmaaProg.lean LOADS. Nothing in Lean hashes anything: it is a label: what it is worth is what the hold of that sum in a sandbox is worth. -/
noncomputable def Try.pinned : Pinned := { name := "ytjfelimfppcgmaa", sum := "91003cc037c9fead490e77208ff3df2f585d7b6befbe37252730465c80891ca6", checked := Try.checked }
namespace Rows
def none {H : Type} : Left H := { results := [], args := [] }

/-- 'laws.FnPayClaimsClass': WHATEVER THE INPUT: true; the input reads as it did. -/
def fnPayClaimsClassSpec : ChangeSpec := { name := "fnPayClaimsClass", fn := fun _ => fun
  | [d] => { results := [.lit (.bool true)], args := [d] }
  | _ => none }
def fnPayClaimsClassRow : OpenClaim := { program := "ytjfelimfppcgmaa", sum := "91003cc037c9fead490e77208ff3df2f585d7b6befbe37252730465c80891ca6", func := "loop.example/savingsclub/laws.FnPayClaimsClass", spec := "fnPayClaimsClass", apart := false }
def FnPayClaimsClassSaid : Prop := fnPayClaimsClassRow.holds Try.pinned (OpenSpec.ofChange fnPayClaimsClassSpec)

/-- ITS FALSE NEIGHBOUR: 'it returns false'. Refute it at one input. -/
def fnPayClaimsClassWrong : ChangeSpec := { name := "fnPayClaimsClass", fn := fun _ => fun
  | [d] => { results := [.lit (.bool false)], args := [d] }
  | _ => none }
def FnPayClaimsClassWrongFalsely : Prop := fnPayClaimsClassRow.holds Try.pinned (OpenSpec.ofChange fnPayClaimsClassWrong)

/-- 'laws.FnExactTwoPiles': WHATEVER THE INPUT: true; the input reads as it did. -/
def fnExactTwoPilesSpec : ChangeSpec := { name := "fnExactTwoPiles", fn := fun _ => fun
  | [d] => { results := [.lit (.bool true)], args := [d] }
  | _ => none }
def fnExactTwoPilesRow : OpenClaim := { program := "ytjfelimfppcgmaa", sum := "91003cc037c9fead490e77208ff3df2f585d7b6befbe37252730465c80891ca6", func := "loop.example/savingsclub/laws.FnExactTwoPiles", spec := "fnExactTwoPiles", apart := false }
def FnExactTwoPilesSaid : Prop := fnExactTwoPilesRow.holds Try.pinned (OpenSpec.ofChange fnExactTwoPilesSpec)

/-- ITS FALSE NEIGHBOUR: 'it returns false'. Refute it at one input. -/
def fnExactTwoPilesWrong : ChangeSpec := { name := "fnExactTwoPiles", fn := fun _ => fun
  | [d] => { results := [.lit (.bool false)], args := [d] }
  | _ => none }
def FnExactTwoPilesWrongFalsely : Prop := fnExactTwoPilesRow.holds Try.pinned (OpenSpec.ofChange fnExactTwoPilesWrong)

/-- 'laws.FnPayClaims': WHATEVER THE INPUT: true; the input reads as it did. -/
def fnPayClaimsSpec : ChangeSpec := { name := "fnPayClaims", fn := fun _ => fun
  | [d] => { results := [.lit (.bool true)], args := [d] }
  | _ => none }
def fnPayClaimsRow : OpenClaim := { program := "ytjfelimfppcgmaa", sum := "91003cc037c9fead490e77208ff3df2f585d7b6befbe37252730465c80891ca6", func := "loop.example/savingsclub/laws.FnPayClaims", spec := "fnPayClaims", apart := false }
def FnPayClaimsSaid : Prop := fnPayClaimsRow.holds Try.pinned (OpenSpec.ofChange fnPayClaimsSpec)

/-- ITS FALSE NEIGHBOUR: 'it returns false'. Refute it at one input. -/
def fnPayClaimsWrong : ChangeSpec := { name := "fnPayClaims", fn := fun _ => fun
  | [d] => { results := [.lit (.bool false)], args := [d] }
  | _ => none }
def FnPayClaimsWrongFalsely : Prop := fnPayClaimsRow.holds Try.pinned (OpenSpec.ofChange fnPayClaimsWrong)

/-- 'laws.FnPayClaimsMore': WHATEVER THE INPUT: true; the input reads as it did. -/
def fnPayClaimsMoreSpec : ChangeSpec := { name := "fnPayClaimsMore", fn := fun _ => fun
  | [d] => { results := [.lit (.bool true)], args := [d] }
  | _ => none }
def fnPayClaimsMoreRow : OpenClaim := { program := "ytjfelimfppcgmaa", sum := "91003cc037c9fead490e77208ff3df2f585d7b6befbe37252730465c80891ca6", func := "loop.example/savingsclub/laws.FnPayClaimsMore", spec := "fnPayClaimsMore", apart := false }
def FnPayClaimsMoreSaid : Prop := fnPayClaimsMoreRow.holds Try.pinned (OpenSpec.ofChange fnPayClaimsMoreSpec)

/-- ITS FALSE NEIGHBOUR: 'it returns false'. Refute it at one input. -/
def fnPayClaimsMoreWrong : ChangeSpec := { name := "fnPayClaimsMore", fn := fun _ => fun
  | [d] => { results := [.lit (.bool false)], args := [d] }
  | _ => none }
def FnPayClaimsMoreWrongFalsely : Prop := fnPayClaimsMoreRow.holds Try.pinned (OpenSpec.ofChange fnPayClaimsMoreWrong)

/-- 'laws.FnExactCutAndChoose': WHATEVER THE INPUT: true; the input reads as it did. -/
def fnExactCutAndChooseSpec : ChangeSpec := { name := "fnExactCutAndChoose", fn := fun _ => fun
  | [d1, d2] => { results := [.lit (.bool true)], args := [d1, d2] }
  | _ => none }
def fnExactCutAndChooseRow : OpenClaim := { program := "ytjfelimfppcgmaa", sum := "91003cc037c9fead490e77208ff3df2f585d7b6befbe37252730465c80891ca6", func := "loop.example/savingsclub/laws.FnExactCutAndChoose", spec := "fnExactCutAndChoose", apart := false }
def FnExactCutAndChooseSaid : Prop := fnExactCutAndChooseRow.holds Try.pinned (OpenSpec.ofChange fnExactCutAndChooseSpec)

/-- ITS FALSE NEIGHBOUR: 'it returns false'. Refute it at one input. -/
def fnExactCutAndChooseWrong : ChangeSpec := { name := "fnExactCutAndChoose", fn := fun _ => fun
  | [d1, d2] => { results := [.lit (.bool false)], args := [d1, d2] }
  | _ => none }
def FnExactCutAndChooseWrongFalsely : Prop := fnExactCutAndChooseRow.holds Try.pinned (OpenSpec.ofChange fnExactCutAndChooseWrong)

/-- 'laws.FnExactPayClaims': WHATEVER THE INPUT: true; the input reads as it did. -/
def fnExactPayClaimsSpec : ChangeSpec := { name := "fnExactPayClaims", fn := fun _ => fun
  | [d1, d2] => { results := [.lit (.bool true)], args := [d1, d2] }
  | _ => none }
def fnExactPayClaimsRow : OpenClaim := { program := "ytjfelimfppcgmaa", sum := "91003cc037c9fead490e77208ff3df2f585d7b6befbe37252730465c80891ca6", func := "loop.example/savingsclub/laws.FnExactPayClaims", spec := "fnExactPayClaims", apart := false }
def FnExactPayClaimsSaid : Prop := fnExactPayClaimsRow.holds Try.pinned (OpenSpec.ofChange fnExactPayClaimsSpec)

/-- ITS FALSE NEIGHBOUR: 'it returns false'. Refute it at one input. -/
def fnExactPayClaimsWrong : ChangeSpec := { name := "fnExactPayClaims", fn := fun _ => fun
  | [d1, d2] => { results := [.lit (.bool false)], args := [d1, d2] }
  | _ => none }
def FnExactPayClaimsWrongFalsely : Prop := fnExactPayClaimsRow.holds Try.pinned (OpenSpec.ofChange fnExactPayClaimsWrong)

/-- 'laws.FnTwoPiles': WHATEVER THE INPUT: true; the input reads as it did. -/
def fnTwoPilesSpec : ChangeSpec := { name := "fnTwoPiles", fn := fun _ => fun
  | [d] => { results := [.lit (.bool true)], args := [d] }
  | _ => none }
def fnTwoPilesRow : OpenClaim := { program := "ytjfelimfppcgmaa", sum := "91003cc037c9fead490e77208ff3df2f585d7b6befbe37252730465c80891ca6", func := "loop.example/savingsclub/laws.FnTwoPiles", spec := "fnTwoPiles", apart := false }
def FnTwoPilesSaid : Prop := fnTwoPilesRow.holds Try.pinned (OpenSpec.ofChange fnTwoPilesSpec)

/-- ITS FALSE NEIGHBOUR: 'it returns false'. Refute it at one input. -/
def fnTwoPilesWrong : ChangeSpec := { name := "fnTwoPiles", fn := fun _ => fun
  | [d] => { results := [.lit (.bool false)], args := [d] }
  | _ => none }
def FnTwoPilesWrongFalsely : Prop := fnTwoPilesRow.holds Try.pinned (OpenSpec.ofChange fnTwoPilesWrong)

/-- 'laws.FnCutAndChoose': WHATEVER THE INPUT: true; the input reads as it did. -/
def fnCutAndChooseSpec : ChangeSpec := { name := "fnCutAndChoose", fn := fun _ => fun
  | [d] => { results := [.lit (.bool true)], args := [d] }
  | _ => none }
def fnCutAndChooseRow : OpenClaim := { program := "ytjfelimfppcgmaa", sum := "91003cc037c9fead490e77208ff3df2f585d7b6befbe37252730465c80891ca6", func := "loop.example/savingsclub/laws.FnCutAndChoose", spec := "fnCutAndChoose", apart := false }
def FnCutAndChooseSaid : Prop := fnCutAndChooseRow.holds Try.pinned (OpenSpec.ofChange fnCutAndChooseSpec)

/-- ITS FALSE NEIGHBOUR: 'it returns false'. Refute it at one input. -/
def fnCutAndChooseWrong : ChangeSpec := { name := "fnCutAndChoose", fn := fun _ => fun
  | [d] => { results := [.lit (.bool false)], args := [d] }
  | _ => none }
def FnCutAndChooseWrongFalsely : Prop := fnCutAndChooseRow.holds Try.pinned (OpenSpec.ofChange fnCutAndChooseWrong)

/-- 'laws.FnExactDissolve': WHATEVER THE INPUT: true; the input reads as it did. -/
def fnExactDissolveSpec : ChangeSpec := { name := "fnExactDissolve", fn := fun _ => fun
  | [d1, d2] => { results := [.lit (.bool true)], args := [d1, d2] }
  | _ => none }
def fnExactDissolveRow : OpenClaim := { program := "ytjfelimfppcgmaa", sum := "91003cc037c9fead490e77208ff3df2f585d7b6befbe37252730465c80891ca6", func := "loop.example/savingsclub/laws.FnExactDissolve", spec := "fnExactDissolve", apart := false }
def FnExactDissolveSaid : Prop := fnExactDissolveRow.holds Try.pinned (OpenSpec.ofChange fnExactDissolveSpec)

/-- ITS FALSE NEIGHBOUR: 'it returns false'. Refute it at one input. -/
def fnExactDissolveWrong : ChangeSpec := { name := "fnExactDissolve", fn := fun _ => fun
  | [d1, d2] => { results := [.lit (.bool false)], args := [d1, d2] }
  | _ => none }
def FnExactDissolveWrongFalsely : Prop := fnExactDissolveRow.holds Try.pinned (OpenSpec.ofChange fnExactDissolveWrong)

/- THE SECOND FORM. 'bulk': how many values and letters a reading holds, each counted each time it is reached (what is shared counts as often as it is met; a slice's spare places count too). A statement '..UptoSaid' is the law's where the arguments, and the package variables that the reading takes, are together of bulk at most 1048576: NARROWER than '..Said'. Prove '..Said' where nothing that the law and all that it calls make is longer than what came in: it says more and counts as full. Else prove '..UptoSaid'. A law counts once. -/
mutual
def uptoBulk {H : Type} : DataW H → Nat
  | .lit (.string bytes) => bytes.length + 1
  | .lit _ => 1
  | .nil => 1
  | .ptr d => uptoBulk d + 1
  | .slice elems spare => uptoBulkAll elems + uptoBulkAll spare + 1
  | .agg parts => uptoBulkAll parts + 1
  | .iface _ d => uptoBulk d + 1
  | .map entries => uptoBulkEntries entries + 1
  | .held _ => 1
def uptoBulkAll {H : Type} : List (DataW H) → Nat
  | [] => 0
  | d :: r => uptoBulk d + uptoBulkAll r
def uptoBulkEntries {H : Type} : List (Lit × DataW H) → Nat
  | [] => 0
  | x :: r => uptoBulkEntry x + uptoBulkEntries r
def uptoBulkEntry {H : Type} : Lit × DataW H → Nat
  | (.string bytes, d) => bytes.length + uptoBulk d + 1
  | (_, d) => uptoBulk d + 1
 end
def uptoSmall : (H : Type) → List (DataW H) → Bool := fun _ ds => decide (uptoBulkAll ds ≤ 1048576)
def OpenSpec.upto (s : _root_.Go.ChangeSpec) : _root_.Go.OpenSpec := { _root_.Go.OpenSpec.ofChange s with cond := some uptoSmall }

/-- 'laws.FnPayClaimsClass', WHERE WHAT IT READS IS OF BULK AT MOST 1048576: true; the input reads as it did. -/
def fnPayClaimsClassUptoRow : OpenClaim := { program := "ytjfelimfppcgmaa", sum := "91003cc037c9fead490e77208ff3df2f585d7b6befbe37252730465c80891ca6", func := "loop.example/savingsclub/laws.FnPayClaimsClass", spec := "fnPayClaimsClass", apart := false, narrowed := true }
def FnPayClaimsClassUptoSaid : Prop := fnPayClaimsClassUptoRow.holds Try.pinned (OpenSpec.upto fnPayClaimsClassSpec)

/-- 'laws.FnExactTwoPiles', WHERE WHAT IT READS IS OF BULK AT MOST 1048576: true; the input reads as it did. -/
def fnExactTwoPilesUptoRow : OpenClaim := { program := "ytjfelimfppcgmaa", sum := "91003cc037c9fead490e77208ff3df2f585d7b6befbe37252730465c80891ca6", func := "loop.example/savingsclub/laws.FnExactTwoPiles", spec := "fnExactTwoPiles", apart := false, narrowed := true }
def FnExactTwoPilesUptoSaid : Prop := fnExactTwoPilesUptoRow.holds Try.pinned (OpenSpec.upto fnExactTwoPilesSpec)

/-- 'laws.FnPayClaims', WHERE WHAT IT READS IS OF BULK AT MOST 1048576: true; the input reads as it did. -/
def fnPayClaimsUptoRow : OpenClaim := { program := "ytjfelimfppcgmaa", sum := "91003cc037c9fead490e77208ff3df2f585d7b6befbe37252730465c80891ca6", func := "loop.example/savingsclub/laws.FnPayClaims", spec := "fnPayClaims", apart := false, narrowed := true }
def FnPayClaimsUptoSaid : Prop := fnPayClaimsUptoRow.holds Try.pinned (OpenSpec.upto fnPayClaimsSpec)

/-- 'laws.FnPayClaimsMore', WHERE WHAT IT READS IS OF BULK AT MOST 1048576: true; the input reads as it did. -/
def fnPayClaimsMoreUptoRow : OpenClaim := { program := "ytjfelimfppcgmaa", sum := "91003cc037c9fead490e77208ff3df2f585d7b6befbe37252730465c80891ca6", func := "loop.example/savingsclub/laws.FnPayClaimsMore", spec := "fnPayClaimsMore", apart := false, narrowed := true }
def FnPayClaimsMoreUptoSaid : Prop := fnPayClaimsMoreUptoRow.holds Try.pinned (OpenSpec.upto fnPayClaimsMoreSpec)

/-- 'laws.FnExactCutAndChoose', WHERE WHAT IT READS IS OF BULK AT MOST 1048576: true; the input reads as it did. -/
def fnExactCutAndChooseUptoRow : OpenClaim := { program := "ytjfelimfppcgmaa", sum := "91003cc037c9fead490e77208ff3df2f585d7b6befbe37252730465c80891ca6", func := "loop.example/savingsclub/laws.FnExactCutAndChoose", spec := "fnExactCutAndChoose", apart := false, narrowed := true }
def FnExactCutAndChooseUptoSaid : Prop := fnExactCutAndChooseUptoRow.holds Try.pinned (OpenSpec.upto fnExactCutAndChooseSpec)

/-- 'laws.FnExactPayClaims', WHERE WHAT IT READS IS OF BULK AT MOST 1048576: true; the input reads as it did. -/
def fnExactPayClaimsUptoRow : OpenClaim := { program := "ytjfelimfppcgmaa", sum := "91003cc037c9fead490e77208ff3df2f585d7b6befbe37252730465c80891ca6", func := "loop.example/savingsclub/laws.FnExactPayClaims", spec := "fnExactPayClaims", apart := false, narrowed := true }
def FnExactPayClaimsUptoSaid : Prop := fnExactPayClaimsUptoRow.holds Try.pinned (OpenSpec.upto fnExactPayClaimsSpec)

/-- 'laws.FnTwoPiles', WHERE WHAT IT READS IS OF BULK AT MOST 1048576: true; the input reads as it did. -/
def fnTwoPilesUptoRow : OpenClaim := { program := "ytjfelimfppcgmaa", sum := "91003cc037c9fead490e77208ff3df2f585d7b6befbe37252730465c80891ca6", func := "loop.example/savingsclub/laws.FnTwoPiles", spec := "fnTwoPiles", apart := false, narrowed := true }
def FnTwoPilesUptoSaid : Prop := fnTwoPilesUptoRow.holds Try.pinned (OpenSpec.upto fnTwoPilesSpec)

/-- 'laws.FnCutAndChoose', WHERE WHAT IT READS IS OF BULK AT MOST 1048576: true; the input reads as it did. -/
def fnCutAndChooseUptoRow : OpenClaim := { program := "ytjfelimfppcgmaa", sum := "91003cc037c9fead490e77208ff3df2f585d7b6befbe37252730465c80891ca6", func := "loop.example/savingsclub/laws.FnCutAndChoose", spec := "fnCutAndChoose", apart := false, narrowed := true }
def FnCutAndChooseUptoSaid : Prop := fnCutAndChooseUptoRow.holds Try.pinned (OpenSpec.upto fnCutAndChooseSpec)

/-- 'laws.FnExactDissolve', WHERE WHAT IT READS IS OF BULK AT MOST 1048576: true; the input reads as it did. -/
def fnExactDissolveUptoRow : OpenClaim := { program := "ytjfelimfppcgmaa", sum := "91003cc037c9fead490e77208ff3df2f585d7b6befbe37252730465c80891ca6", func := "loop.example/savingsclub/laws.FnExactDissolve", spec := "fnExactDissolve", apart := false, narrowed := true }
def FnExactDissolveUptoSaid : Prop := fnExactDissolveUptoRow.holds Try.pinned (OpenSpec.upto fnExactDissolveSpec)

end Rows
end Go.Proofs.Ytjfelimfppcgmaa
