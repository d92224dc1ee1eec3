/-
 For FitsObjects: closed runs of the evaluator. No conditions beyond those that each theorem states.
-/
import Derived.Test.YtbfjjkjiokfdgaaGreatEv4
import Derived.Test.YtbfjjkjiokfdgaaGreatConD
import Derived.Test.YtbfjjkjiokfdgaaGreatProg
import Derived.KernelRfl
set_option linter.unusedSimpArgs false
set_option linter.unusedVariables false
section
namespace Go.Di
open Go.Ev Go.Proofs
set_option maxRecDepth 1000000 in
theorem zn9:qqd (gD Tryz.prog zn1 100000 (.f 6) [] Hp.empty)=true:=by decide +kernel
set_option maxRecDepth 1000000 in
theorem zn4:([170,130].all fun f=>nmL.all fun s=>qqd (gD Tryz.prog zn1 100000 (.f f) [.str s.n s.a] Hp.empty))=true:=by decide +kernel
set_option maxRecDepth 1000000 in
theorem zvv:zgv (gD Tryz.prog zn1 1000 (.f 122) [.aA] Hp.empty)=true:=by decide +kernel
end Go.Di
end
