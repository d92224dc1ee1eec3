/-
  For countersignlaw16.GraphsTurned: one closed run of the evaluator. No conditions beyond those that each theorem states.
-/
import Derived.Test.YtigaopnmpflgmaaGreatEv3
import Derived.Test.YtigaopnmpflgmaaGreatProg
import Derived.KernelRfl
set_option linter.unusedSimpArgs false
set_option linter.unusedVariables false
section
namespace Go.Di
open Go.Ev Go.Proofs
set_option maxRecDepth 1000000 in
theorem livesRun : isTrue (callF Tryz.prog noExt 100000 (.f 12) [] Hp.empty) = true := by decide +kernel
end Go.Di
end
