/-
  A known call over its known loop, reckoned by the kernel. No conditions.
-/
import Derived.Test.YthghaehlidfpjaaGreatSt1
import Derived.Test.YthghaehlidfpjaaGreatProg
namespace Go.Proofs.YthghaehlidfpjaaGreat
open Go.Ev
set_option maxRecDepth 1000000 in
theorem c2w : [c2s0, c2s1, c2s2].all (fun s => s.wf c2e) = true := by decide +kernel
set_option maxRecDepth 1000000 in
theorem c2g : (runG Tryz.prog (tblK 56 [⟨[false, true, true, true, false, false, true, true, false, false, true, false, true, true, true, true, true], c2s0, c2e⟩]) x5 100 r919.kn && r919.kn.wf) = true := by decide +kernel
end Go.Proofs.YthghaehlidfpjaaGreat
