/-
 For ReachesGoals: closed runs of the evaluator. No conditions beyond those that each theorem states.
-/
import Derived.Test.YtnojgpkbpnimhaaGreatRunC
import Derived.Test.YtnojgpkbpnimhaaGreatProg
set_option linter.unusedSimpArgs false
set_option linter.unusedVariables false
section
namespace Go.Di
open Go.Ev Go.Proofs
set_option maxRecDepth 1000000 in
theorem lr0:runK Tryz.prog yJ 100000 (qA 0)=true:=by decide +kernel
set_option maxRecDepth 1000000 in
theorem lr1:runK Tryz.prog yJ 100000 (qA 13601)=true:=by decide +kernel
set_option maxRecDepth 1000000 in
theorem lr2:runK Tryz.prog yJ 100000 (qA 27178)=true:=by decide +kernel
set_option maxRecDepth 1000000 in
theorem lr3:runK Tryz.prog yJ 100000 (qA 40926)=true:=by decide +kernel
set_option maxRecDepth 1000000 in
theorem lr4:runK Tryz.prog yJ 100000 (qA 72898)=true:=by decide +kernel
end Go.Di
end
