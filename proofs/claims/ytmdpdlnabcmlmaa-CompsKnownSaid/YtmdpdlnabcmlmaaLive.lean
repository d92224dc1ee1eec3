/-
 For countersignlaw17.CompsKnown: one closed run of the evaluator. No conditions beyond those that each theorem states.
-/
import Derived.Test.YtmdpdlnabcmlmaaEv3
import Derived.Test.YtmdpdlnabcmlmaaProg
import Derived.KernelRfl
set_option linter.unusedSimpArgs false
set_option linter.unusedVariables false
section
namespace Go.Di
open Go.Ev Go.Proofs
set_option maxRecDepth 1000000 in
theorem zd3 : zav (callF Try.prog zi2 100000 (.f 15) [] Hp.empty) = true := by decide +kernel
end Go.Di
end
