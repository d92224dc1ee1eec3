/-
 For countersignlaw18.StrataKnown: known calls, reckoned by the kernel, the second part. No conditions beyond those that each theorem states.
-/
import Derived.Test.YtiickhlaamgljaaGreatKEnt
import Derived.Test.YtiickhlaamgljaaGreatProg
set_option linter.unusedSimpArgs false
set_option linter.unusedVariables false
section
/-
 Known calls, reckoned by the kernel.
-/
namespace Go.Di
open Go.Ev Go.Proofs
set_option maxRecDepth 1000000 in
theorem run2 : l2.all (runK Tryz.prog qxc 100000) = true := by decide +kernel
end Go.Di
end
