/-
 For TablesOf: closed runs of the evaluator. No conditions beyond those that each theorem states.
-/
import Derived.Test.YtlanjbacddlobaaGreatConA
import Derived.Test.YtlanjbacddlobaaGreatEv4
import Derived.Test.YtlanjbacddlobaaGreatConD
import Derived.Test.YtlanjbacddlobaaGreatProg
import Derived.KernelRfl
set_option linter.unusedSimpArgs false
set_option linter.unusedVariables false
section
namespace Go.Di
open Go.Ev Go.Proofs
set_option maxRecDepth 1000000 in
theorem zyl:qvx (gV Tryz.prog zyc 100000 (.f 4) [] Hp.empty)=true:=by decide +kernel
set_option maxRecDepth 1000000 in
theorem zyg:([142,132].all fun f=>nmL.all fun s=>qvx (gV Tryz.prog zyc 100000 (.f f) [.str s.n s.a] Hp.empty))=true:=by decide +kernel
set_option maxRecDepth 1000000 in
theorem z8i:zqt (gV Tryz.prog zyc 1000 (.f 130) [.aA] Hp.empty)=true:=by decide +kernel
end Go.Di
end
