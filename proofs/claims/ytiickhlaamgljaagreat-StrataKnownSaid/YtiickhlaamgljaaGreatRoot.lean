/-
 For countersignlaw18.StrataKnown: the root over the known calls, reckoned by the kernel. No conditions beyond those that each theorem states.
-/
import Derived.Test.YtiickhlaamgljaaGreatKEnt
import Derived.Test.YtiickhlaamgljaaGreatProg
set_option linter.unusedSimpArgs false
set_option linter.unusedVariables false
section
/-
 The root over the known calls, reckoned by the kernel.
-/
namespace Go.Di
open Go.Ev Go.Proofs
set_option maxRecDepth 1000000 in
theorem wfAll : lAll.all Kn.wf = true := by decide +kernel
set_option maxRecDepth 1000000 in
theorem q7w : q06 (callF Tryz.prog (q41 lAll) 100000 (.f 7) [] Hp.empty) = true := by decide +kernel
set_option maxRecDepth 1000000 in
theorem q7s : q05 (callF Tryz.prog qxc 1000 (.f 68) [.nilsl] Hp.empty) = true := by decide +kernel
end Go.Di
end
