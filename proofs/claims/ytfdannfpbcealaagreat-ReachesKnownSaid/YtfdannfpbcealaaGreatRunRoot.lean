/-
  The law's own run over the known calls, reckoned by the kernel. No conditions.
-/
import Derived.Test.YtfdannfpbcealaaGreatEnt1
import Derived.Test.YtfdannfpbcealaaGreatProg
namespace Go.Proofs.YtfdannfpbcealaaGreat
open Go.Ev
set_option maxRecDepth 1000000 in
theorem wfAll : h3.all Kn.wf = true := by decide +kernel
set_option maxRecDepth 1000000 in
theorem runRoot : isTrue (callF Tryz.prog (knExt h3) 100000 (.f 3) [] Hp.empty) = true := by decide +kernel
end Go.Proofs.YtfdannfpbcealaaGreat
