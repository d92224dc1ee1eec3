/-
  A known call over its known loop, reckoned by the kernel. No conditions.
-/
import Derived.Test.YthghaehlidfpjaaGreatSt1
import Derived.Test.YthghaehlidfpjaaGreatProg
namespace Go.Proofs.YthghaehlidfpjaaGreat
open Go.Ev
set_option maxRecDepth 1000000 in
theorem c1w : [c1s0, c1s1, c1s2, c1s3, c1s4, c1s5].all (fun s => s.wf c1e) = true := by decide +kernel
set_option maxRecDepth 1000000 in
theorem c1g : (runG Tryz.prog (tblK 56 [⟨[false, true, true, true, false, false, true, true, false, false, true, false, true, true, true, true, true], c1s0, c1e⟩]) x5 100 r855.kn && r855.kn.wf) = true := by decide +kernel
end Go.Proofs.YthghaehlidfpjaaGreat
