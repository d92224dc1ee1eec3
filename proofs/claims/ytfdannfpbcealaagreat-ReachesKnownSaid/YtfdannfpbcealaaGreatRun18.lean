/-
  Known calls, reckoned by the kernel: each of the list l18 runs as it says. No conditions.
-/
import Derived.Test.YtfdannfpbcealaaGreatEnt1
import Derived.Test.YtfdannfpbcealaaGreatProg
namespace Go.Proofs.YtfdannfpbcealaaGreat
open Go.Ev
set_option maxRecDepth 1000000 in
theorem run18 : l18.all (runK Tryz.prog (knExt h1) 100000) = true := by decide +kernel
end Go.Proofs.YtfdannfpbcealaaGreat
