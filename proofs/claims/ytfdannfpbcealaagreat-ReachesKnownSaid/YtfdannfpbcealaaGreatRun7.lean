/-
  Known calls, reckoned by the kernel: each of the list l7 runs as it says. No conditions.
-/
import Derived.Test.YtfdannfpbcealaaGreatEnt1
import Derived.Test.YtfdannfpbcealaaGreatProg
namespace Go.Proofs.YtfdannfpbcealaaGreat
open Go.Ev
set_option maxRecDepth 1000000 in
theorem run7 : l7.all (runK Tryz.prog noExt 100000) = true := by decide +kernel
end Go.Proofs.YtfdannfpbcealaaGreat
