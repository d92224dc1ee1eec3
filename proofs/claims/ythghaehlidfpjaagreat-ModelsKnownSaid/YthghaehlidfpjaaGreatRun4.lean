/-
  Known calls, reckoned by the kernel: each runs as it says, over those below. No conditions.
-/
import Derived.Test.YthghaehlidfpjaaGreatEnt1
import Derived.Test.YthghaehlidfpjaaGreatProg
namespace Go.Proofs.YthghaehlidfpjaaGreat
open Go.Ev
set_option maxRecDepth 1000000 in
theorem run3 : [g25, g27, g26].all (runM Tryz.prog x3 100000) = true := by decide +kernel
end Go.Proofs.YthghaehlidfpjaaGreat
