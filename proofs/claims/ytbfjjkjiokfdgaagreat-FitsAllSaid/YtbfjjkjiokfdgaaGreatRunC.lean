/-
 For countersign/countersignlaw20.FitsAll: closed runs of the evaluator. No conditions beyond those that each theorem states.
-/
import Derived.Test.YtbfjjkjiokfdgaaGreatEv4
import Derived.Test.YtbfjjkjiokfdgaaGreatConD
import Derived.Test.YtbfjjkjiokfdgaaGreatProg
import Derived.KernelRfl
set_option linter.unusedSimpArgs false
set_option linter.unusedVariables false
section
namespace Go.Di
open Go.Ev Go.Proofs
set_option maxRecDepth 1000000 in
theorem zs1:qsy (gQ Tryz.prog zsr 100000 (.f 6) [] Hp.empty)=true:=by decide +kernel
set_option maxRecDepth 1000000 in
theorem zsv:([170,130].all fun f=>nmL.all fun s=>qsy (gQ Tryz.prog zsr 100000 (.f f) [.str s.n s.a] Hp.empty))=true:=by decide +kernel
set_option maxRecDepth 1000000 in
theorem z0r:zlg (gQ Tryz.prog zsr 1000 (.f 122) [.aA] Hp.empty)=true:=by decide +kernel
end Go.Di
end
