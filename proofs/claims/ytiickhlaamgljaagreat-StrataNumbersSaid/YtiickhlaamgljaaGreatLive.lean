/-
 For countersignlaw18.StrataNumbers: one closed run of the evaluator. No conditions beyond those that each theorem states.
-/
import Derived.Test.YtiickhlaamgljaaGreatEv4
import Derived.Test.YtiickhlaamgljaaGreatProg
import Derived.KernelRfl
set_option linter.unusedSimpArgs false
set_option linter.unusedVariables false
section
namespace Go.Di
open Go.Ev Go.Proofs
set_option maxRecDepth 1000000 in
theorem zbf : q7q (callF Tryz.prog zet 100000 (.f 14) [] Hp.empty) = true := by decide +kernel
set_option maxRecDepth 1000000 in
theorem zd7 : q7p (callF Tryz.prog zet 1000 (.f 68) [.nilsl] Hp.empty) = true := by decide +kernel
end Go.Di
end
