/-
 For countersignlaw18.StrataErrors: one closed run of the evaluator. No conditions beyond those that each theorem states.
-/
import Derived.Test.YtiickhlaamgljaaGreatEv4
import Derived.Test.YtiickhlaamgljaaGreatProg
import Derived.KernelRfl
set_option linter.unusedSimpArgs false
set_option linter.unusedVariables false
section
namespace Go.Di
open Go.Ev Go.Proofs
set_option maxRecDepth 1000000 in
theorem q61 : q29 (callF Tryz.prog q99 100000 (.f 14) [] Hp.empty) = true := by decide +kernel
set_option maxRecDepth 1000000 in
theorem q9o : q28 (callF Tryz.prog q99 1000 (.f 68) [.nilsl] Hp.empty) = true := by decide +kernel
end Go.Di
end
