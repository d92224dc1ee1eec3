/-
  Stretches of a loop's rounds, reckoned by the kernel. No conditions.
-/
import Derived.Test.YtigaopnmpflgmaaEnt
import Derived.Test.YtigaopnmpflgmaaProg
namespace Go.Proofs.Ytigaopnmpflgmaa
open Go.Ev
set_option maxRecDepth 1000000 in
theorem c0r0 : runS Try.prog 2 58 (bodyAt (bodyOf Try.prog 11) [false, true, false, true, true, true, true]) (callF Try.prog noExt 100) 33 c0s0 c0s1 = true := by decide +kernel
end Go.Proofs.Ytigaopnmpflgmaa
