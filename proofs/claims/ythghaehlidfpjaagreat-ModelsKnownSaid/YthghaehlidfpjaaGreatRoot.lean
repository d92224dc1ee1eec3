/-
  The law's own run over the known calls, reckoned by the kernel. No conditions.
-/
import Derived.Test.YthghaehlidfpjaaGreatEnt1
import Derived.Test.YthghaehlidfpjaaGreatProg
namespace Go.Proofs.YthghaehlidfpjaaGreat
open Go.Ev
set_option maxRecDepth 1000000 in
theorem runRoot : isTrue (callF Tryz.prog x6 100000 (.f 3) [] Hp.empty) = true := by decide +kernel
end Go.Proofs.YthghaehlidfpjaaGreat
