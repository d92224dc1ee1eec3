/-
 For StrataTurns: closed runs of the evaluator. No conditions beyond those that each theorem states.
-/
import Derived.Test.YtighkibjecdbnaaGreatEv4
import Derived.Test.YtighkibjecdbnaaGreatConD
import Derived.Test.YtighkibjecdbnaaGreatProg
import Derived.KernelRfl
set_option linter.unusedSimpArgs false
set_option linter.unusedVariables false
section
namespace Go.Di
open Go.Ev Go.Proofs
set_option maxRecDepth 1000000 in
theorem zts:qte (eY Tryz.prog zlw 100000 (.f 5) [] Hp.empty)=true:=by decide +kernel
set_option maxRecDepth 1000000 in
theorem ztn:([129,90,71].all fun f=>nmL.all fun s=>qte (eY Tryz.prog zlw 100000 (.f f) [.str s.n s.a] Hp.empty))=true:=by decide +kernel
set_option maxRecDepth 1000000 in
theorem z1f:zmk (eY Tryz.prog zlw 1000 (.f 82) [.aA] Hp.empty)=true:=by decide +kernel
set_option maxRecDepth 1000000 in
theorem z2p:(nmL.all fun s=>z2r (eY Tryz.prog zlw 100000 (.f 109) [.str s.n s.a] Hp.empty))=true:=by decide +kernel
end Go.Di
end
