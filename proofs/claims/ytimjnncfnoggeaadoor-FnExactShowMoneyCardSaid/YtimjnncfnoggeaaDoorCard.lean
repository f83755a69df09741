/- ShowMoney answers what the reference's ShowMoney answers, for every int: the tied card of FnExactShowMoney. Conditions: the three tables that the row lists hold what the program's text lays; the card ties that to the text. -/
import Derived.Test.YtimjnncfnoggeaaDoorProofs
import Derived.Test.YtimjnncfnoggeaaDoorCards
import Derived.Test.YtimjnncfnoggeaaDoorTie
import Derived.SevenTiedAt
namespace Go.Proofs.YtimjnncfnoggeaaDoor
open Go
theorem fnExactShowMoneyCard_holds : Rows.FnExactShowMoneyCardSaid :=
  Claim7.holds_tied_plain_at .later [] [.data, .data, .data] true (true, "37b5334d6a684de895ce07a3add00906a704d6ee9cec1f245489aa1103111032") false
    row_holds (fun _ h => by cases h) (by kernel_rfl) (fun _ h => by cases h) fnExactShowMoney_row_tie rfl ⟨rfl, rfl⟩ (by kernel_rfl) rfl
    (fun f fn hf hfn => by
      obtain rfl : f = 3 := Option.some.inj ((show Tryd.prog.funcNamed "loop.example/savingsclub/laws.FnExactShowMoney" = some 3 by kernel_rfl).symm.trans hf) |>.symm
      obtain rfl : fn = Tryd.f3 := (Option.some.inj (Tryd.func3.symm.trans hfn)).symm
      exact ⟨by kernel_rfl, fun j t ht => by
        rw [Tryd.params3] at ht
        have hm : t ∈ [3] := by simpa using Array.mem_of_getElem? ht
        have hall : ([3].all fun u => !Tryd.prog.wantsStandIn u) = true := by kernel_rfl
        exact (show Tryd.prog.wantsStandIn t = false by simpa using List.all_eq_true.1 hall t hm)⟩)
    (by kernel_rfl)
#print axioms fnExactShowMoneyCard_holds
end Go.Proofs.YtimjnncfnoggeaaDoor
