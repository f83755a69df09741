/-
  No cell of these rows narrows 'for every input' (looked for: loops, veiled, ifaces, maps, wideKeys, modest, calm, conditions, laid).
  DERIVED. THE GIVEN ROWS OF THIS SEAT. 6 by the template 'for every input the law returns true; each argument reads behind the call as it read before'; 0 by the template 'total and deterministic' (their statements: YtehomgbacebgeaaTotals.lean).
  GIVEN WITH THE SEED: the statements are not yours to turn. If you find one false, say at which input.
  Laid BY PROGRAM, IN A SANDBOX (cutbox-rows.mjs): the forced cells as the released guide's own fill.sh prints them over the translation 16d26c19a60de206… (all of the seat's roots in one cut). By AI agents, Wed Nov 11 2026. No macro, syntax, notation, axiom, sorry.
-/
import Derived.Test.YtehomgbacebgeaaChecked
import GoSem.Claim
import GoSem.ClaimJoined
import GoSem.ClaimMapViews
import Derived.JoinedTies
import Derived.KernelRfl
namespace Go.Proofs.Ytehomgbacebgeaa
/- THE CELL 'sum', in the pinned program and in every row, IS THE sha256 OF THE DUMP (.gsa) THAT YtehomgbacebgeaaProg.lean LOADS. Nothing in Lean hashes anything: it is a label: what it is worth is what the hold of that sum in a sandbox is worth. -/
noncomputable def Try.pinned : Pinned := { name := "ytehomgbacebgeaa", sum := "16d26c19a60de206cacb1ac4ddb4119bafa54e43b3812725c55cc891b4644ce7", checked := Try.checked }
namespace Rows
def none {H : Type} : Left H := { results := [], args := [] }

/-- 'laws.FnLevelsOf': WHATEVER THE INPUT: true; the input reads as it did. -/
def fnLevelsOfSpec : ChangeSpec := { name := "fnLevelsOf", fn := fun _ => fun
  | [d] => { results := [.lit (.bool true)], args := [d] }
  | _ => none }
def fnLevelsOfRow : OpenClaim := { program := "ytehomgbacebgeaa", sum := "16d26c19a60de206cacb1ac4ddb4119bafa54e43b3812725c55cc891b4644ce7", func := "loop.example/savingsclub/laws.FnLevelsOf", spec := "fnLevelsOf", apart := false }
def FnLevelsOfSaid : Prop := fnLevelsOfRow.holds Try.pinned (OpenSpec.ofChange fnLevelsOfSpec)

/-- ITS FALSE NEIGHBOUR: 'it returns false'. Refute it at one input. -/
def fnLevelsOfWrong : ChangeSpec := { name := "fnLevelsOf", fn := fun _ => fun
  | [d] => { results := [.lit (.bool false)], args := [d] }
  | _ => none }
def FnLevelsOfWrongFalsely : Prop := fnLevelsOfRow.holds Try.pinned (OpenSpec.ofChange fnLevelsOfWrong)

/-- 'laws.FnExposureOf': WHATEVER THE INPUT: true; the input reads as it did. -/
def fnExposureOfSpec : ChangeSpec := { name := "fnExposureOf", fn := fun _ => fun
  | [d] => { results := [.lit (.bool true)], args := [d] }
  | _ => none }
def fnExposureOfRow : OpenClaim := { program := "ytehomgbacebgeaa", sum := "16d26c19a60de206cacb1ac4ddb4119bafa54e43b3812725c55cc891b4644ce7", func := "loop.example/savingsclub/laws.FnExposureOf", spec := "fnExposureOf", apart := false }
def FnExposureOfSaid : Prop := fnExposureOfRow.holds Try.pinned (OpenSpec.ofChange fnExposureOfSpec)

/-- ITS FALSE NEIGHBOUR: 'it returns false'. Refute it at one input. -/
def fnExposureOfWrong : ChangeSpec := { name := "fnExposureOf", fn := fun _ => fun
  | [d] => { results := [.lit (.bool false)], args := [d] }
  | _ => none }
def FnExposureOfWrongFalsely : Prop := fnExposureOfRow.holds Try.pinned (OpenSpec.ofChange fnExposureOfWrong)

/-- 'laws.FnExactOwedBy': WHATEVER THE INPUT: true; the input reads as it did. -/
def fnExactOwedBySpec : ChangeSpec := { name := "fnExactOwedBy", fn := fun _ => fun
  | [d1, d2] => { results := [.lit (.bool true)], args := [d1, d2] }
  | _ => none }
def fnExactOwedByRow : OpenClaim := { program := "ytehomgbacebgeaa", sum := "16d26c19a60de206cacb1ac4ddb4119bafa54e43b3812725c55cc891b4644ce7", func := "loop.example/savingsclub/laws.FnExactOwedBy", spec := "fnExactOwedBy", apart := false }
def FnExactOwedBySaid : Prop := fnExactOwedByRow.holds Try.pinned (OpenSpec.ofChange fnExactOwedBySpec)

/-- ITS FALSE NEIGHBOUR: 'it returns false'. Refute it at one input. -/
def fnExactOwedByWrong : ChangeSpec := { name := "fnExactOwedBy", fn := fun _ => fun
  | [d1, d2] => { results := [.lit (.bool false)], args := [d1, d2] }
  | _ => none }
def FnExactOwedByWrongFalsely : Prop := fnExactOwedByRow.holds Try.pinned (OpenSpec.ofChange fnExactOwedByWrong)

/-- 'laws.FnHasRing': WHATEVER THE INPUT: true; the input reads as it did. -/
def fnHasRingSpec : ChangeSpec := { name := "fnHasRing", fn := fun _ => fun
  | [d] => { results := [.lit (.bool true)], args := [d] }
  | _ => none }
def fnHasRingRow : OpenClaim := { program := "ytehomgbacebgeaa", sum := "16d26c19a60de206cacb1ac4ddb4119bafa54e43b3812725c55cc891b4644ce7", func := "loop.example/savingsclub/laws.FnHasRing", spec := "fnHasRing", apart := false }
def FnHasRingSaid : Prop := fnHasRingRow.holds Try.pinned (OpenSpec.ofChange fnHasRingSpec)

/-- ITS FALSE NEIGHBOUR: 'it returns false'. Refute it at one input. -/
def fnHasRingWrong : ChangeSpec := { name := "fnHasRing", fn := fun _ => fun
  | [d] => { results := [.lit (.bool false)], args := [d] }
  | _ => none }
def FnHasRingWrongFalsely : Prop := fnHasRingRow.holds Try.pinned (OpenSpec.ofChange fnHasRingWrong)

/-- 'laws.FnOwedBy': WHATEVER THE INPUT: true; the input reads as it did. -/
def fnOwedBySpec : ChangeSpec := { name := "fnOwedBy", fn := fun _ => fun
  | [d] => { results := [.lit (.bool true)], args := [d] }
  | _ => none }
def fnOwedByRow : OpenClaim := { program := "ytehomgbacebgeaa", sum := "16d26c19a60de206cacb1ac4ddb4119bafa54e43b3812725c55cc891b4644ce7", func := "loop.example/savingsclub/laws.FnOwedBy", spec := "fnOwedBy", apart := false }
def FnOwedBySaid : Prop := fnOwedByRow.holds Try.pinned (OpenSpec.ofChange fnOwedBySpec)

/-- ITS FALSE NEIGHBOUR: 'it returns false'. Refute it at one input. -/
def fnOwedByWrong : ChangeSpec := { name := "fnOwedBy", fn := fun _ => fun
  | [d] => { results := [.lit (.bool false)], args := [d] }
  | _ => none }
def FnOwedByWrongFalsely : Prop := fnOwedByRow.holds Try.pinned (OpenSpec.ofChange fnOwedByWrong)

/-- 'laws.FnExactHasRing': WHATEVER THE INPUT: true; the input reads as it did. -/
def fnExactHasRingSpec : ChangeSpec := { name := "fnExactHasRing", fn := fun _ => fun
  | [d1, d2] => { results := [.lit (.bool true)], args := [d1, d2] }
  | _ => none }
def fnExactHasRingRow : OpenClaim := { program := "ytehomgbacebgeaa", sum := "16d26c19a60de206cacb1ac4ddb4119bafa54e43b3812725c55cc891b4644ce7", func := "loop.example/savingsclub/laws.FnExactHasRing", spec := "fnExactHasRing", apart := false }
def FnExactHasRingSaid : Prop := fnExactHasRingRow.holds Try.pinned (OpenSpec.ofChange fnExactHasRingSpec)

/-- ITS FALSE NEIGHBOUR: 'it returns false'. Refute it at one input. -/
def fnExactHasRingWrong : ChangeSpec := { name := "fnExactHasRing", fn := fun _ => fun
  | [d1, d2] => { results := [.lit (.bool false)], args := [d1, d2] }
  | _ => none }
def FnExactHasRingWrongFalsely : Prop := fnExactHasRingRow.holds Try.pinned (OpenSpec.ofChange fnExactHasRingWrong)

/- THE SECOND FORM. 'bulk': how many values and letters a reading holds, each counted each time it is reached (what is shared counts as often as it is met; a slice's spare places count too). A statement '..UptoSaid' is the law's where the arguments, and the package variables that the reading takes, are together of bulk at most 1048576: NARROWER than '..Said'. Prove '..Said' where nothing that the law and all that it calls make is longer than what came in: it says more and counts as full. Else prove '..UptoSaid'. A law counts once. -/
mutual
def uptoBulk {H : Type} : DataW H → Nat
  | .lit (.string bytes) => bytes.length + 1
  | .lit _ => 1
  | .nil => 1
  | .ptr d => uptoBulk d + 1
  | .slice elems spare => uptoBulkAll elems + uptoBulkAll spare + 1
  | .agg parts => uptoBulkAll parts + 1
  | .iface _ d => uptoBulk d + 1
  | .map entries => uptoBulkEntries entries + 1
  | .held _ => 1
def uptoBulkAll {H : Type} : List (DataW H) → Nat
  | [] => 0
  | d :: r => uptoBulk d + uptoBulkAll r
def uptoBulkEntries {H : Type} : List (Lit × DataW H) → Nat
  | [] => 0
  | x :: r => uptoBulkEntry x + uptoBulkEntries r
def uptoBulkEntry {H : Type} : Lit × DataW H → Nat
  | (.string bytes, d) => bytes.length + uptoBulk d + 1
  | (_, d) => uptoBulk d + 1
 end
def uptoSmall : (H : Type) → List (DataW H) → Bool := fun _ ds => decide (uptoBulkAll ds ≤ 1048576)
def OpenSpec.upto (s : _root_.Go.ChangeSpec) : _root_.Go.OpenSpec := { _root_.Go.OpenSpec.ofChange s with cond := some uptoSmall }

/-- 'laws.FnLevelsOf', WHERE WHAT IT READS IS OF BULK AT MOST 1048576: true; the input reads as it did. -/
def fnLevelsOfUptoRow : OpenClaim := { program := "ytehomgbacebgeaa", sum := "16d26c19a60de206cacb1ac4ddb4119bafa54e43b3812725c55cc891b4644ce7", func := "loop.example/savingsclub/laws.FnLevelsOf", spec := "fnLevelsOf", apart := false, narrowed := true }
def FnLevelsOfUptoSaid : Prop := fnLevelsOfUptoRow.holds Try.pinned (OpenSpec.upto fnLevelsOfSpec)

/-- 'laws.FnExposureOf', WHERE WHAT IT READS IS OF BULK AT MOST 1048576: true; the input reads as it did. -/
def fnExposureOfUptoRow : OpenClaim := { program := "ytehomgbacebgeaa", sum := "16d26c19a60de206cacb1ac4ddb4119bafa54e43b3812725c55cc891b4644ce7", func := "loop.example/savingsclub/laws.FnExposureOf", spec := "fnExposureOf", apart := false, narrowed := true }
def FnExposureOfUptoSaid : Prop := fnExposureOfUptoRow.holds Try.pinned (OpenSpec.upto fnExposureOfSpec)

/-- 'laws.FnExactOwedBy', WHERE WHAT IT READS IS OF BULK AT MOST 1048576: true; the input reads as it did. -/
def fnExactOwedByUptoRow : OpenClaim := { program := "ytehomgbacebgeaa", sum := "16d26c19a60de206cacb1ac4ddb4119bafa54e43b3812725c55cc891b4644ce7", func := "loop.example/savingsclub/laws.FnExactOwedBy", spec := "fnExactOwedBy", apart := false, narrowed := true }
def FnExactOwedByUptoSaid : Prop := fnExactOwedByUptoRow.holds Try.pinned (OpenSpec.upto fnExactOwedBySpec)

/-- 'laws.FnHasRing', WHERE WHAT IT READS IS OF BULK AT MOST 1048576: true; the input reads as it did. -/
def fnHasRingUptoRow : OpenClaim := { program := "ytehomgbacebgeaa", sum := "16d26c19a60de206cacb1ac4ddb4119bafa54e43b3812725c55cc891b4644ce7", func := "loop.example/savingsclub/laws.FnHasRing", spec := "fnHasRing", apart := false, narrowed := true }
def FnHasRingUptoSaid : Prop := fnHasRingUptoRow.holds Try.pinned (OpenSpec.upto fnHasRingSpec)

/-- 'laws.FnOwedBy', WHERE WHAT IT READS IS OF BULK AT MOST 1048576: true; the input reads as it did. -/
def fnOwedByUptoRow : OpenClaim := { program := "ytehomgbacebgeaa", sum := "16d26c19a60de206cacb1ac4ddb4119bafa54e43b3812725c55cc891b4644ce7", func := "loop.example/savingsclub/laws.FnOwedBy", spec := "fnOwedBy", apart := false, narrowed := true }
def FnOwedByUptoSaid : Prop := fnOwedByUptoRow.holds Try.pinned (OpenSpec.upto fnOwedBySpec)

/-- 'laws.FnExactHasRing', WHERE WHAT IT READS IS OF BULK AT MOST 1048576: true; the input reads as it did. -/
def fnExactHasRingUptoRow : OpenClaim := { program := "ytehomgbacebgeaa", sum := "16d26c19a60de206cacb1ac4ddb4119bafa54e43b3812725c55cc891b4644ce7", func := "loop.example/savingsclub/laws.FnExactHasRing", spec := "fnExactHasRing", apart := false, narrowed := true }
def FnExactHasRingUptoSaid : Prop := fnExactHasRingUptoRow.holds Try.pinned (OpenSpec.upto fnExactHasRingSpec)

end Rows
end Go.Proofs.Ytehomgbacebgeaa
