/-
  Known calls over those with loops, reckoned by the kernel. No conditions.
-/
import Derived.Test.YtigaopnmpflgmaaEnt
import Derived.Test.YtigaopnmpflgmaaProg
namespace Go.Proofs.Ytigaopnmpflgmaa
open Go.Ev
set_option maxRecDepth 1000000 in
theorem more1 : l1.all (runK Try.prog (knExt lW) 100000) = true := by decide +kernel
end Go.Proofs.Ytigaopnmpflgmaa
