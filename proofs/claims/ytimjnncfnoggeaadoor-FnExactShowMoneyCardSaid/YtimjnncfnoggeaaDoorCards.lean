/-
  DERIVED. GIVEN WITH THE SEED: THE CARDS: each row of YtimjnncfnoggeaaDoorRows.lean that lists a variable, with what it lists TIED to the program's text (the seventh form; the later family's looks); each row that meets fmt, with fmt's text TOLD by the authors' own Lean function (tested against real Go, not proved from fmt's source: count such statements apart). THE CARD IS WHAT COUNTS. Prove the row's statement (the work); the ties are given (YtimjnncfnoggeaaDoorTie.lean); close each card by the builder's one call (the guide's Derived/Test/ToyasCard.lean, 'card_holds'). Laid BY PROGRAM, IN A SANDBOX (cutbox-door.mjs). By AI agents, Wed Nov 11 2026. No macro, syntax, notation, axiom, sorry.
-/
import Derived.Test.YtimjnncfnoggeaaDoorRows
import GoSem.ClaimSeven
namespace Go.Proofs.YtimjnncfnoggeaaDoor
namespace Rows

/-- THE TIED CARD OF 'laws.FnExactShowMoney'. -/
def fnExactShowMoneyCard : Claim7 := { stood := { row := fnExactShowMoneyRow, standIns := [], harness := (true, "37b5334d6a684de895ce07a3add00906a704d6ee9cec1f245489aa1103111032"), looks := false }, kinds := [], alts := [], laidByText := true, laidKinds := [.data, .data, .data], laidTests := true, laidLooks := .later }
def FnExactShowMoneyCardSaid : Prop := Claim7.holds Tryd.pinned (.plain (OpenSpec.ofChange fnExactShowMoneySpec)) fnExactShowMoneyCard

/-- THE SECOND FORM's CARD OF 'laws.FnExactShowMoney'. -/
def fnExactShowMoneyUptoCard : Claim7 := { stood := { row := fnExactShowMoneyUptoRow, standIns := [], harness := (true, "37b5334d6a684de895ce07a3add00906a704d6ee9cec1f245489aa1103111032"), looks := false }, kinds := [], alts := [], laidByText := true, laidKinds := [.data, .data, .data], laidTests := true, laidLooks := .later }
def FnExactShowMoneyUptoCardSaid : Prop := Claim7.holds Tryd.pinned (.plain (OpenSpec.upto fnExactShowMoneySpec)) fnExactShowMoneyUptoCard
end Rows
end Go.Proofs.YtimjnncfnoggeaaDoor
