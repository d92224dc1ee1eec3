/-
  Known calls, reckoned by the kernel: each runs as it says, over those below. No conditions.
-/
import Derived.Test.YthghaehlidfpjaaGreatEnt1
import Derived.Test.YthghaehlidfpjaaGreatProg
namespace Go.Proofs.YthghaehlidfpjaaGreat
open Go.Ev
set_option maxRecDepth 1000000 in
theorem run0 : [g6, g1, g4, g5, g3, g12, g7, g2, g8, g13, g15, g14, g10, g11, g9, g0].all (runM Tryz.prog x0 100000) = true := by decide +kernel
end Go.Proofs.YthghaehlidfpjaaGreat
