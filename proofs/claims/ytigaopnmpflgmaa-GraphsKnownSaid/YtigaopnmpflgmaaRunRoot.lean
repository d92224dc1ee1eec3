/-
  The law's own run over the known calls, reckoned by the kernel. No conditions.
-/
import Derived.Test.YtigaopnmpflgmaaEnt
import Derived.Test.YtigaopnmpflgmaaProg
namespace Go.Proofs.Ytigaopnmpflgmaa
open Go.Ev
set_option maxRecDepth 1000000 in
theorem wfAll : lAll.all Kn.wf = true := by decide +kernel
set_option maxRecDepth 1000000 in
theorem runRoot : isTrue (callF Try.prog (knExt lAll) 100000 (.f 3) [] Hp.empty) = true := by decide +kernel
end Go.Proofs.Ytigaopnmpflgmaa
