/-
  A known call over its known loop, reckoned by the kernel. No conditions.
-/
import Derived.Test.YthghaehlidfpjaaGreatSt1
import Derived.Test.YthghaehlidfpjaaGreatProg
namespace Go.Proofs.YthghaehlidfpjaaGreat
open Go.Ev
set_option maxRecDepth 1000000 in
theorem c0w : [c0s0, c0s1, c0s2, c0s3, c0s4, c0s5].all (fun s => s.wf c0e) = true := by decide +kernel
set_option maxRecDepth 1000000 in
theorem c0g : (runG Tryz.prog (tblK 56 [⟨[false, true, true, true, false, false, true, true, false, false, true, false, true, true, true, true, true], c0s0, c0e⟩]) x5 100 r798.kn && r798.kn.wf) = true := by decide +kernel
end Go.Proofs.YthghaehlidfpjaaGreat
