/-
  A stretch of a loop's rounds, reckoned by the kernel over known calls. No conditions.
-/
import Derived.Test.YthghaehlidfpjaaGreatSt1
import Derived.Test.YthghaehlidfpjaaGreatProg
namespace Go.Proofs.YthghaehlidfpjaaGreat
open Go.Ev
set_option maxRecDepth 1000000 in
theorem c0r4 : runS Tryz.prog 2 56 (bodyAt (bodyOf Tryz.prog 14) [false, true, true, true, false, false, true, true, false, false, true, false, true, true, true, true, true]) (callF Tryz.prog x5 100) 12 c0s4 c0s5 = true := by decide +kernel
end Go.Proofs.YthghaehlidfpjaaGreat
