/-
 For TablesEval: closed runs of the evaluator. No conditions beyond those that each theorem states.
-/
import Derived.Test.YtoknlffemngkbaaGreatEv4
import Derived.Test.YtoknlffemngkbaaGreatConC
import Derived.Test.YtoknlffemngkbaaGreatProg
import Derived.KernelRfl
set_option linter.unusedSimpArgs false
set_option linter.unusedVariables false
section
namespace Go.Di
open Go.Ev Go.Proofs
set_option maxRecDepth 1000000 in
theorem q34 : qsz (callF Tryz.prog q65 100000 (.f 14) [] Hp.empty) = true := by decide +kernel
set_option maxRecDepth 1000000 in
theorem q31 : (nmL.all fun s => qsz (callF Tryz.prog q65 100000 (.f 97) [.str s.n s.a] Hp.empty)) = true := by decide +kernel
end Go.Di
end
