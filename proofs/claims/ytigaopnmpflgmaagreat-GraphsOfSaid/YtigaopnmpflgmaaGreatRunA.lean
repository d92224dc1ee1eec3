/-
 For GraphsOf: closed runs of the evaluator. No conditions beyond those that each theorem states.
-/
import Derived.Test.YtigaopnmpflgmaaGreatEv4
import Derived.Test.YtigaopnmpflgmaaGreatConD
import Derived.Test.YtigaopnmpflgmaaGreatProg
import Derived.KernelRfl
set_option linter.unusedSimpArgs false
set_option linter.unusedVariables false
section
namespace Go.Di
open Go.Ev Go.Proofs
set_option maxRecDepth 1000000 in
theorem zdp : qo5 (callF Tryz.prog zil 100000 (.f 12) [] Hp.empty) = true := by decide +kernel
set_option maxRecDepth 1000000 in
theorem zdm : ([98, 69].all fun f => nmL.all fun s => qo5 (callF Tryz.prog zil 100000 (.f f) [.str s.n s.a] Hp.empty)) = true := by decide +kernel
end Go.Di
end
