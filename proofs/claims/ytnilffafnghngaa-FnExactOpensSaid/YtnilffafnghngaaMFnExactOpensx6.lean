-- Written for this claim (gp.py); by hand: laws_eqLockS, laws_toLockS
import Derived.Test.YtnilffafnghngaaMFnExactOpensx0
import Derived.Test.YtnilffafnghngaaMFnExactOpensx5
namespace Go.Proofs.Ytnilffafnghngaa.PFnExactOpens
open Go.RowKit Go.Proofs.YtnilffafnghngaaW.PrintWords Go.Proofs.YtnilffafnghngaaW.PrintLast Go.Proofs.YtnilffafnghngaaW.PrintMore
attribute [local go_sem] max2_int min2_int max_two min_two max_three min_three max_four min_four   -- for this text's walks alone
set_option linter.unusedVariables false
set_option linter.unusedSimpArgs false

/-! ### laws_toLockS: function 59 -/
-- with laws_toLock

/-! ### laws_eqLockS: function 60 -/
-- with laws_eqLock

end Go.Proofs.Ytnilffafnghngaa.PFnExactOpens
