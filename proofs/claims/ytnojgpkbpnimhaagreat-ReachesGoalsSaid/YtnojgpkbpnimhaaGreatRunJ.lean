/-
 For ReachesGoals: closed runs of the evaluator. No conditions beyond those that each theorem states.
-/
import Derived.Test.YtnojgpkbpnimhaaGreatRunC
import Derived.Test.YtnojgpkbpnimhaaGreatProg
set_option linter.unusedSimpArgs false
set_option linter.unusedVariables false
section
namespace Go.Di
open Go.Ev Go.Proofs
set_option maxRecDepth 1000000 in
theorem aZb:runK Tryz.prog (qq0 lv0) 100000 q6=true:=by decide +kernel
set_option maxRecDepth 1000000 in
theorem aVg:runK Tryz.prog (qq0 lv0) 100000 q8=true:=by decide +kernel
end Go.Di
end
