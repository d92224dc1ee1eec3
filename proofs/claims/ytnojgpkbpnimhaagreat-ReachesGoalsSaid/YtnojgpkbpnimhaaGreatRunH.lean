/-
 For ReachesGoals: closed runs of the evaluator. No conditions beyond those that each theorem states.
-/
import Derived.Test.YtnojgpkbpnimhaaGreatRunC
import Derived.Test.YtnojgpkbpnimhaaGreatProg
set_option linter.unusedSimpArgs false
set_option linter.unusedVariables false
section
namespace Go.Di
open Go.Ev Go.Proofs
set_option maxRecDepth 1000000 in
theorem aXT:runK Tryz.prog yJ 100000 (qF 86305)=true:=by decide +kernel
set_option maxRecDepth 1000000 in
theorem aXb:runK Tryz.prog yJ 100000 (qC 0)=true:=by decide +kernel
set_option maxRecDepth 1000000 in
theorem aZV:runK Tryz.prog yJ 100000 (qC 31972)=true:=by decide +kernel
end Go.Di
end
