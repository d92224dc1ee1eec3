/-
  A closed run, reckoned by the kernel: function 3 of the program answers true, in the evaluator, where functions [10] are known to answer true. No conditions.
-/
import Derived.Test.YtkeeggehhlhjnadGreatEv3
import Derived.Test.YtkeeggehhlhjnadGreatProg
namespace Go.Proofs.YtkeeggehhlhjnadGreat
open Go.Ev
set_option maxRecDepth 1000000 in
theorem run3 : isTrue (callF Tryz.prog (yesExt [10]) 100000 (.f 3) [] Hp.empty) = true := by decide +kernel
end Go.Proofs.YtkeeggehhlhjnadGreat
