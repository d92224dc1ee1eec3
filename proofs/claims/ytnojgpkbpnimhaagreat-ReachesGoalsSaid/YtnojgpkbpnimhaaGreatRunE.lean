/-
 For ReachesGoals: closed runs of the evaluator. No conditions beyond those that each theorem states.
-/
import Derived.Test.YtnojgpkbpnimhaaGreatRunC
import Derived.Test.YtnojgpkbpnimhaaGreatProg
set_option linter.unusedSimpArgs false
set_option linter.unusedVariables false
section
namespace Go.Di
open Go.Ev Go.Proofs
set_option maxRecDepth 1000000 in
theorem lr5:runK Tryz.prog yJ 100000 (qF 0)=true:=by decide +kernel
set_option maxRecDepth 1000000 in
theorem lr6:runK Tryz.prog yJ 100000 (qF 13601)=true:=by decide +kernel
end Go.Di
end
