/-
  A closed run, reckoned by the kernel: function 10 of the program answers true, in the evaluator. No conditions.
-/
import Derived.Test.YtkeeggehhlhjnadGreatEv3
import Derived.Test.YtkeeggehhlhjnadGreatProg
namespace Go.Proofs.YtkeeggehhlhjnadGreat
open Go.Ev
set_option maxRecDepth 1000000 in
theorem run10 : isTrue (callF Tryz.prog noExt 100000 (.f 10) [] Hp.empty) = true := by decide +kernel
end Go.Proofs.YtkeeggehhlhjnadGreat
