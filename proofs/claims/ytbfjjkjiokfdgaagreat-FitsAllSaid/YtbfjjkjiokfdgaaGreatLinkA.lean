/-
 For countersign/countersignlaw20.FitsAll: the direct functions are what the evaluator computes, part 1. No conditions beyond those that each theorem states.
-/
import Derived.Test.YtbfjjkjiokfdgaaGreatConB
import Derived.Test.YtbfjjkjiokfdgaaGreatConC
import Derived.Test.YtbfjjkjiokfdgaaGreatProg
import Derived.KernelRfl
import Derived.Test.YtbfjjkjiokfdgaaGreatConI
import Derived.Test.YtbfjjkjiokfdgaaGreatConF
set_option linter.unusedSimpArgs false
set_option linter.unusedVariables false
open Nat renaming reduceAdd->rB,reduceMul->rI,reduceSub->rK,reduceLeDiff->rL,reduceEqDiff->rN,reduceShiftRight->rS,reduceAnd->r6
noncomputable section
namespace Go.Di
open Go.Ev Go.Proofs
set_option maxRecDepth 100000
variable (O:Ev.Call) (x0 x1 x2 x3 x4 x5 x6 x7:AV) (H:Hp)
theorem q6d:(aM Tryz.prog 4).f O [x0,x1] H=zFy O x0 x1 H:=
 r7 Tryz.func4 (D:=fun L H=>zxg O (G L 0) (G L 1) H)
 (p5 (q6 (q6 (p5 (E:=fun L H=>qtk O (G L 1) (G L 5) (G L 6) H) (p5 (E:=fun L H=>qir O (G L 1) (G L 5) (G L 6) H) (q6 (p5 (E:=fun L H=>qtl O (G L 1) (G L 5) (G L 6) (G L 7) (G L 8) H) (p5 (E:=fun L H=>qis O (G L 1) (G L 5) (G L 6) (G L 7) (G L 8) H) (q6 (p5 (E:=fun L H=>qtm O (G L 1) (G L 5) (G L 6) (G L 7) (G L 8) (G L 9) (G L 10) (G L 11) H) (p5 (E:=fun L H=>qit O (G L 1) (G L 5) (G L 6) (G L 7) (G L 8) (G L 9) (G L 10) (G L 11) H) (q6 (p5 (E:=fun L H=>qtn O (G L 1) (G L 5) (G L 6) (G L 7) (G L 8) (G L 9) (G L 10) (G L 11) (G L 12) (G L 13) H) (p5 (E:=fun L H=>qiu O (G L 1) (G L 5) (G L 6) (G L 7) (G L 8) (G L 9) (G L 10) (G L 11) (G L 12) (G L 13) H) (q6 (p5 (E:=fun L H=>qtp O (G L 1) (G L 5) (G L 6) (G L 12) H) (p5 (E:=fun L H=>qiw O (G L 1) (G L 5) (G L 6) (G L 12) H) (q6 (p5 (E:=fun L H=>jM O (G L 1) (G L 5) (G L 6) H) (p5 (E:=fun L H=>qlw O (G L 1) (G L 5) (G L 6) H) (q6 (q6 (p5 (E:=fun L H=>qti O (G L 1) (G L 6) (G L 18) H) (p5 (E:=fun L H=>qlx O (G L 1) (G L 6) (G L 18) H) (q6 (p5 (E:=fun L H=>qfd O (G L 6) (G L 18) H) (p5 (E:=fun L H=>ql4 O (G L 6) (G L 18) H) (q6 (p5 (E:=fun L H=>q0v O (G L 6) (G L 7) (G L 8) H) (p5 (E:=fun L H=>ql6 O (G L 6) (G L 7) (G L 8) H) q0) (fun L H=>by rw[qqu])) q0)) (fun L H=>by rw[qqt])) (q6 (p5 (E:=fun L H=>qmt O (G L 6) (G L 18) (G L 210) H) (p5 (E:=fun L H=>qio O (G L 6) (G L 18) (G L 210) H) (pB (q6 (p5 (E:=fun L H=>q0q O (G L 6) (G L 18) (G L 19) H) (p5 (E:=fun L H=>qly O (G L 6) (G L 18) (G L 19) H) (q6 (p5 (E:=fun L H=>u6 O (G L 6) (G L 18) (G L 19) H) (p5 (E:=fun L H=>ql3 O (G L 6) (G L 18) (G L 19) H) q0) (fun L H=>by rw[qqs])) (q6 (r8 (p5 (E:=fun L H=>q00 O (fun H=>u6 O (G L 6) (G L 18) (G L 19) H) (G L 18) (G L 19) (G L 20) H) (pT (D:=fun k24 L H=>xR O (fun H=>u6 O (G L 6) (G L 18) (G L 19) H) (G L 18) (G L 19) k24 (G L 20) H) (fun k24=>p5 (q6 (p5 (E:=fun L H=>q0s O (fun x20 H=>xR O (fun H=>u6 O (G L 6) (G L 18) (G L 19) H) (G L 18) (G L 19) k24 x20 H) (G L 18) (G L 19) (G L 20) H) (p5 (E:=fun L H=>qlz O (fun x20 H=>xR O (fun H=>u6 O (G L 6) (G L 18) (G L 19) H) (G L 18) (G L 19) k24 x20 H) (G L 18) (G L 19) (G L 20) H) (q6 (p5 (E:=fun L H=>q0u O (fun x20 H=>xR O (fun H=>u6 O (G L 6) (G L 18) (G L 19) H) (G L 18) (G L 19) k24 x20 H) (G L 20) H) (p5 (E:=fun L H=>ql2 O (fun x20 H=>xR O (fun H=>u6 O (G L 6) (G L 18) (G L 19) H) (G L 18) (G L 19) k24 x20 H) (G L 20) H) q0) (fun L H=>by rw[qqr])) (r8 (q6 (p5 (E:=fun L H=>qtj O (fun x20 H=>xR O (fun H=>u6 O (G L 6) (G L 18) (G L 19) H) (G L 18) (G L 19) k24 x20 H) (G L 19) (G L 20) (G L 21) H) (p5 (E:=fun L H=>ql0 O (fun x20 H=>xR O (fun H=>u6 O (G L 6) (G L 18) (G L 19) H) (G L 18) (G L 19) k24 x20 H) (G L 19) (G L 20) (G L 21) H) (q6 (p5 (E:=fun L H=>qmu O (fun x20 H=>xR O (fun H=>u6 O (G L 6) (G L 18) (G L 19) H) (G L 18) (G L 19) k24 x20 H) (G L 19) (G L 20) (G L 21) H) (p5 (E:=fun L H=>ql1 O (fun x20 H=>xR O (fun H=>u6 O (G L 6) (G L 18) (G L 19) H) (G L 18) (G L 19) k24 x20 H) (G L 19) (G L 20) (G L 21) H) q0) (fun L H=>by rw[qqq])) (q6 (p5 (E:=fun L H=>q0t O (fun x20 H=>xR O (fun H=>u6 O (G L 6) (G L 18) (G L 19) H) (G L 18) (G L 19) k24 x20 H) (G L 19) (G L 20) (G L 21) (G L 238) H) (p5 (E:=fun L H=>qiq O (fun x20 H=>xR O (fun H=>u6 O (G L 6) (G L 18) (G L 19) H) (G L 18) (G L 19) k24 x20 H) (G L 19) (G L 20) (G L 21) (G L 238) H) q0) (fun L H=>by rw[qj4])) q0))) (fun L H=>by rw[qqp])) q0)))) (fun L H=>by rw[qqo])) (q6 (p5 (E:=fun L H=>q0r O (fun x20 H=>xR O (fun H=>u6 O (G L 6) (G L 18) (G L 19) H) (G L 18) (G L 19) k24 x20 H) (fun H=>u6 O (G L 6) (G L 18) (G L 19) H) (G L 18) (G L 19) (G L 20) (G L 224) H) (p5 (E:=fun L H=>qip O (fun x20 H=>xR O (fun H=>u6 O (G L 6) (G L 18) (G L 19) H) (G L 18) (G L 19) k24 x20 H) (fun H=>u6 O (G L 6) (G L 18) (G L 19) H) (G L 18) (G L 19) (G L 20) (G L 224) H) q0) (fun L H=>by rw[qj3])) q0)))) (fun _ _=>by kernel_rfl))) q0))) (fun L H=>by rw[qqn])) q0) q0)) (fun L H=>by rw[qj2])) q0))) (fun L H=>by rw[qqm])) q0) q0)) (fun L H=>by rw[qql])) (q6 (r8 (p5 (E:=fun L H=>q0y O (fun x4 H=>.ok x4 H) (fun H=>jM O (G L 1) (G L 5) (G L 6) H) (G L 5) (G L 6) (G L 12) (G L 14) H) (pT (D:=fun lG L H=>kK O (fun x4 H=>.ok x4 H) (fun H=>jM O (G L 1) (G L 5) (G L 6) H) (G L 5) (G L 6) (G L 12) lG (G L 14) H) (fun lG=>p5 (q6 (p5 (E:=fun L H=>qtr O (fun x4 H=>.ok x4 H) (fun aZ H=>kK O (fun x4 H=>.ok x4 H) (fun H=>jM O (G L 1) (G L 5) (G L 6) H) (G L 5) (G L 6) (G L 12) lG aZ H) (G L 5) (G L 6) (G L 12) (G L 14) H) (p5 (E:=fun L H=>qix O (fun x4 H=>.ok x4 H) (fun aZ H=>kK O (fun x4 H=>.ok x4 H) (fun H=>jM O (G L 1) (G L 5) (G L 6) H) (G L 5) (G L 6) (G L 12) lG aZ H) (G L 5) (G L 6) (G L 12) (G L 14) H) (q6 (p5 (E:=fun L H=>q0p O (fun aZ H=>kK O (fun x4 H=>.ok x4 H) (fun H=>jM O (G L 1) (G L 5) (G L 6) H) (G L 5) (G L 6) (G L 12) lG aZ H) (G L 14) H) (p5 (E:=fun L H=>qlv O (fun aZ H=>kK O (fun x4 H=>.ok x4 H) (fun H=>jM O (G L 1) (G L 5) (G L 6) H) (G L 5) (G L 6) (G L 12) lG aZ H) (G L 14) H) q0) (fun L H=>by rw[qqk])) (r8 (q6 (q6 (p5 (E:=fun L H=>qiz O (fun x4 H=>.ok x4 H) (fun aZ H=>kK O (fun x4 H=>.ok x4 H) (fun H=>jM O (G L 1) (G L 5) (G L 6) H) (G L 5) (G L 6) (G L 12) lG aZ H) (G L 5) (G L 6) (G L 12) (G L 14) (G L 15) (G L 16) H) (p5 (E:=fun L H=>qiy O (fun x4 H=>.ok x4 H) (fun aZ H=>kK O (fun x4 H=>.ok x4 H) (fun H=>jM O (G L 1) (G L 5) (G L 6) H) (G L 5) (G L 6) (G L 12) lG aZ H) (G L 5) (G L 6) (G L 12) (G L 14) (G L 15) (G L 16) H) (q6 (p5 (E:=fun L H=>tH O (fun x4 H=>.ok x4 H) (fun aZ H=>kK O (fun x4 H=>.ok x4 H) (fun H=>jM O (G L 1) (G L 5) (G L 6) H) (G L 5) (G L 6) (G L 12) lG aZ H) (G L 5) (G L 6) (G L 14) (G L 15) (G L 16) H) (p5 (E:=fun L H=>qi3 O (fun x4 H=>.ok x4 H) (fun aZ H=>kK O (fun x4 H=>.ok x4 H) (fun H=>jM O (G L 1) (G L 5) (G L 6) H) (G L 5) (G L 6) (G L 12) lG aZ H) (G L 5) (G L 6) (G L 14) (G L 15) (G L 16) H) (q6 (p5 (E:=fun L H=>qg0 O (fun x4 H=>.ok x4 H) (fun aZ H=>kK O (fun x4 H=>.ok x4 H) (fun H=>jM O (G L 1) (G L 5) (G L 6) H) (G L 5) (G L 6) (G L 12) lG aZ H) (G L 5) (G L 6) (G L 14) (G L 15) (G L 16) H) (p5 (E:=fun L H=>qi4 O (fun x4 H=>.ok x4 H) (fun aZ H=>kK O (fun x4 H=>.ok x4 H) (fun H=>jM O (G L 1) (G L 5) (G L 6) H) (G L 5) (G L 6) (G L 12) lG aZ H) (G L 5) (G L 6) (G L 14) (G L 15) (G L 16) H) (q6 (p5 (E:=fun L H=>q0o O (fun x4 H=>.ok x4 H) (fun aZ H=>kK O (fun x4 H=>.ok x4 H) (fun H=>jM O (G L 1) (G L 5) (G L 6) H) (G L 5) (G L 6) (G L 12) lG aZ H) (G L 14) (G L 192) H) (p5 (E:=fun L H=>qlu O (fun x4 H=>.ok x4 H) (fun aZ H=>kK O (fun x4 H=>.ok x4 H) (fun H=>jM O (G L 1) (G L 5) (G L 6) H) (G L 5) (G L 6) (G L 12) lG aZ H) (G L 14) (G L 192) H) q0) (fun L H=>by rw[qqj])) q0)) (fun L H=>by rw[qm6])) (q6 (p5 (E:=fun L H=>qtx O (fun x4 H=>.ok x4 H) (fun aZ H=>kK O (fun x4 H=>.ok x4 H) (fun H=>jM O (G L 1) (G L 5) (G L 6) H) (G L 5) (G L 6) (G L 12) lG aZ H) (G L 5) (G L 6) (G L 14) (G L 15) (G L 16) (G L 178) H) (p5 (E:=fun L H=>qey O (fun x4 H=>.ok x4 H) (fun aZ H=>kK O (fun x4 H=>.ok x4 H) (fun H=>jM O (G L 1) (G L 5) (G L 6) H) (G L 5) (G L 6) (G L 12) lG aZ H) (G L 5) (G L 6) (G L 14) (G L 15) (G L 16) (G L 178) H) q0) (fun L H=>by rw[qfe])) q0))) (fun L H=>by rw[qm5])) (q6 (r8 (p5 (E:=fun L H=>qtz O (fun bQ H=>tH O (fun x4 H=>.ok x4 H) (fun aZ H=>kK O (fun x4 H=>.ok x4 H) (fun H=>jM O (G L 1) (G L 5) (G L 6) H) (G L 5) (G L 6) (G L 12) lG aZ H) (G L 5) (G L 6) (G L 14) bQ (G L 16) H) (G L 6) (G L 12) (G L 14) (G L 15) (G L 17) H) (pT (D:=fun nY L H=>yC O (fun bQ H=>tH O (fun x4 H=>.ok x4 H) (fun aZ H=>kK O (fun x4 H=>.ok x4 H) (fun H=>jM O (G L 1) (G L 5) (G L 6) H) (G L 5) (G L 6) (G L 12) lG aZ H) (G L 5) (G L 6) (G L 14) bQ (G L 16) H) (G L 6) (G L 12) (G L 14) nY (G L 15) (G L 17) H) (fun nY=>p5 (q6 (p5 (E:=fun L H=>qtu O (fun bQ dL H=>yC O (fun bQ H=>tH O (fun x4 H=>.ok x4 H) (fun aZ H=>kK O (fun x4 H=>.ok x4 H) (fun H=>jM O (G L 1) (G L 5) (G L 6) H) (G L 5) (G L 6) (G L 12) lG aZ H) (G L 5) (G L 6) (G L 14) bQ (G L 16) H) (G L 6) (G L 12) (G L 14) nY bQ dL H) (G L 6) (G L 12) (G L 14) (G L 15) (G L 17) H) (p5 (E:=fun L H=>qi0 O (fun bQ dL H=>yC O (fun bQ H=>tH O (fun x4 H=>.ok x4 H) (fun aZ H=>kK O (fun x4 H=>.ok x4 H) (fun H=>jM O (G L 1) (G L 5) (G L 6) H) (G L 5) (G L 6) (G L 12) lG aZ H) (G L 5) (G L 6) (G L 14) bQ (G L 16) H) (G L 6) (G L 12) (G L 14) nY bQ dL H) (G L 6) (G L 12) (G L 14) (G L 15) (G L 17) H) (q6 (p5 (E:=fun L H=>ql5 O (fun bQ dL H=>yC O (fun bQ H=>tH O (fun x4 H=>.ok x4 H) (fun aZ H=>kK O (fun x4 H=>.ok x4 H) (fun H=>jM O (G L 1) (G L 5) (G L 6) H) (G L 5) (G L 6) (G L 12) lG aZ H) (G L 5) (G L 6) (G L 14) bQ (G L 16) H) (G L 6) (G L 12) (G L 14) nY bQ dL H) (G L 15) (G L 17) H) (p5 (E:=fun L H=>qdy O (fun bQ dL H=>yC O (fun bQ H=>tH O (fun x4 H=>.ok x4 H) (fun aZ H=>kK O (fun x4 H=>.ok x4 H) (fun H=>jM O (G L 1) (G L 5) (G L 6) H) (G L 5) (G L 6) (G L 12) lG aZ H) (G L 5) (G L 6) (G L 14) bQ (G L 16) H) (G L 6) (G L 12) (G L 14) nY bQ dL H) (G L 15) (G L 17) H) q0) (fun L H=>by rw[qdz])) (r8 (q6 (p5 (E:=fun L H=>qi2 O (fun bQ dL H=>yC O (fun bQ H=>tH O (fun x4 H=>.ok x4 H) (fun aZ H=>kK O (fun x4 H=>.ok x4 H) (fun H=>jM O (G L 1) (G L 5) (G L 6) H) (G L 5) (G L 6) (G L 12) lG aZ H) (G L 5) (G L 6) (G L 14) bQ (G L 16) H) (G L 6) (G L 12) (G L 14) nY bQ dL H) (G L 6) (G L 12) (G L 14) (G L 15) (G L 17) H) (p5 (E:=fun L H=>qi1 O (fun bQ dL H=>yC O (fun bQ H=>tH O (fun x4 H=>.ok x4 H) (fun aZ H=>kK O (fun x4 H=>.ok x4 H) (fun H=>jM O (G L 1) (G L 5) (G L 6) H) (G L 5) (G L 6) (G L 12) lG aZ H) (G L 5) (G L 6) (G L 14) bQ (G L 16) H) (G L 6) (G L 12) (G L 14) nY bQ dL H) (G L 6) (G L 12) (G L 14) (G L 15) (G L 17) H) (q6 (p5 (E:=fun L H=>qtw O (fun bQ dL H=>yC O (fun bQ H=>tH O (fun x4 H=>.ok x4 H) (fun aZ H=>kK O (fun x4 H=>.ok x4 H) (fun H=>jM O (G L 1) (G L 5) (G L 6) H) (G L 5) (G L 6) (G L 12) lG aZ H) (G L 5) (G L 6) (G L 14) bQ (G L 16) H) (G L 6) (G L 12) (G L 14) nY bQ dL H) (G L 15) (G L 17) (G L 148) H) (p5 (E:=fun L H=>qdw O (fun bQ dL H=>yC O (fun bQ H=>tH O (fun x4 H=>.ok x4 H) (fun aZ H=>kK O (fun x4 H=>.ok x4 H) (fun H=>jM O (G L 1) (G L 5) (G L 6) H) (G L 5) (G L 6) (G L 12) lG aZ H) (G L 5) (G L 6) (G L 14) bQ (G L 16) H) (G L 6) (G L 12) (G L 14) nY bQ dL H) (G L 15) (G L 17) (G L 148) H) q0) (fun L H=>by rw[qdx])) q0)) (fun L H=>by rw[qm4])) (q6 (p5 (E:=fun L H=>qtv O (fun bQ dL H=>yC O (fun bQ H=>tH O (fun x4 H=>.ok x4 H) (fun aZ H=>kK O (fun x4 H=>.ok x4 H) (fun H=>jM O (G L 1) (G L 5) (G L 6) H) (G L 5) (G L 6) (G L 12) lG aZ H) (G L 5) (G L 6) (G L 14) bQ (G L 16) H) (G L 6) (G L 12) (G L 14) nY bQ dL H) (G L 6) (G L 12) (G L 14) (G L 15) (G L 17) (G L 107) H) (p5 (E:=fun L H=>qga O (fun bQ dL H=>yC O (fun bQ H=>tH O (fun x4 H=>.ok x4 H) (fun aZ H=>kK O (fun x4 H=>.ok x4 H) (fun H=>jM O (G L 1) (G L 5) (G L 6) H) (G L 5) (G L 6) (G L 12) lG aZ H) (G L 5) (G L 6) (G L 14) bQ (G L 16) H) (G L 6) (G L 12) (G L 14) nY bQ dL H) (G L 6) (G L 12) (G L 14) (G L 15) (G L 17) (G L 107) H) q0) (fun L H=>by rw[qh2])) q0))))) (fun L H=>by rw[qm3])) (q6 (p5 (E:=fun L H=>qtt O (fun bQ dL H=>yC O (fun bQ H=>tH O (fun x4 H=>.ok x4 H) (fun aZ H=>kK O (fun x4 H=>.ok x4 H) (fun H=>jM O (G L 1) (G L 5) (G L 6) H) (G L 5) (G L 6) (G L 12) lG aZ H) (G L 5) (G L 6) (G L 14) bQ (G L 16) H) (G L 6) (G L 12) (G L 14) nY bQ dL H) (fun bQ H=>tH O (fun x4 H=>.ok x4 H) (fun aZ H=>kK O (fun x4 H=>.ok x4 H) (fun H=>jM O (G L 1) (G L 5) (G L 6) H) (G L 5) (G L 6) (G L 12) lG aZ H) (G L 5) (G L 6) (G L 14) bQ (G L 16) H) (G L 6) (G L 12) (G L 14) (G L 15) (G L 17) (G L 95) H) (p5 (E:=fun L H=>qf9 O (fun bQ dL H=>yC O (fun bQ H=>tH O (fun x4 H=>.ok x4 H) (fun aZ H=>kK O (fun x4 H=>.ok x4 H) (fun H=>jM O (G L 1) (G L 5) (G L 6) H) (G L 5) (G L 6) (G L 12) lG aZ H) (G L 5) (G L 6) (G L 14) bQ (G L 16) H) (G L 6) (G L 12) (G L 14) nY bQ dL H) (fun bQ H=>tH O (fun x4 H=>.ok x4 H) (fun aZ H=>kK O (fun x4 H=>.ok x4 H) (fun H=>jM O (G L 1) (G L 5) (G L 6) H) (G L 5) (G L 6) (G L 12) lG aZ H) (G L 5) (G L 6) (G L 14) bQ (G L 16) H) (G L 6) (G L 12) (G L 14) (G L 15) (G L 17) (G L 95) H) q0) (fun L H=>by rw[qh1])) q0)))) (fun _ _=>by kernel_rfl))) q0))) (fun L H=>by rw[qm2])) (q6 (p5 (E:=fun L H=>qts O (fun x4 H=>.ok x4 H) (fun aZ H=>kK O (fun x4 H=>.ok x4 H) (fun H=>jM O (G L 1) (G L 5) (G L 6) H) (G L 5) (G L 6) (G L 12) lG aZ H) (G L 5) (G L 6) (G L 12) (G L 14) (G L 15) (G L 16) (G L 89) H) (p5 (E:=fun L H=>qf8 O (fun x4 H=>.ok x4 H) (fun aZ H=>kK O (fun x4 H=>.ok x4 H) (fun H=>jM O (G L 1) (G L 5) (G L 6) H) (G L 5) (G L 6) (G L 12) lG aZ H) (G L 5) (G L 6) (G L 12) (G L 14) (G L 15) (G L 16) (G L 89) H) q0) (fun L H=>by rw[qh0])) q0)) q0)))) (fun L H=>by rw[qm1])) (q6 (p5 (E:=fun L H=>qtq O (fun x4 H=>.ok x4 H) (fun aZ H=>kK O (fun x4 H=>.ok x4 H) (fun H=>jM O (G L 1) (G L 5) (G L 6) H) (G L 5) (G L 6) (G L 12) lG aZ H) (fun H=>jM O (G L 1) (G L 5) (G L 6) H) (G L 5) (G L 6) (G L 12) (G L 14) (G L 80) H) (p5 (E:=fun L H=>qf7 O (fun x4 H=>.ok x4 H) (fun aZ H=>kK O (fun x4 H=>.ok x4 H) (fun H=>jM O (G L 1) (G L 5) (G L 6) H) (G L 5) (G L 6) (G L 12) lG aZ H) (fun H=>jM O (G L 1) (G L 5) (G L 6) H) (G L 5) (G L 6) (G L 12) (G L 14) (G L 80) H) q0) (fun L H=>by rw[qhz])) q0)))) (fun _ _=>by kernel_rfl))) q0))) (fun L H=>by rw[qm0])) (q6 (p5 (E:=fun L H=>qto O (G L 1) (G L 5) (G L 6) (G L 12) (G L 76) H) (p5 (E:=fun L H=>qiv O (G L 1) (G L 5) (G L 6) (G L 12) (G L 76) H) q0) (fun L H=>by rw[qmz])) q0))) (fun L H=>by rw[qmy])) q0)) (fun L H=>by rw[qmx])) q0)) (fun L H=>by rw[qmw])) q0)) (fun L H=>by rw[qmv])) q0) q0))
theorem zps:(aM Tryz.prog 140).f O [x0,x1,x2,x3,x4,x5,x6] H=zCo O x0 x1 x2 x3 x4 x5 x6 H:=
 r7 Tryz.func140 (D:=fun L H=>zpt O (G L 0) (G L 1) (G L 2) (G L 3) (G L 4) (G L 5) (G L 6) H)
 (p5 (q6 (q6 (q6 (q6 (q6 (q6 (q6 (q6 q0 (q6 (r8 (pT (D:=fun k37 L H=>qt9 O (fun x10 H=>.ok x10 H) (fun bA H=>qno O (G L 3) (G L 11) bA H) (G L 0) (G L 1) (G L 2) (G L 3) (G L 6) (G L 51) k37 (G L 12) (G L 52) H) (fun k37=>p5 q0))) q0)) q0) q0) q0) q0) q0) q0) q0))
theorem zoy:(aM Tryz.prog 199).f O [x0,x1] H=zDs O x0 x1 H:=
 r7 Tryz.func199 (D:=fun L H=>zyh O (G L 0) (G L 1) H)
 (p5 (q6 (q6 q0 (q6 (r8 (pT (D:=fun k2 L H=>qxh O (fun x4 H=>.ok x4 H) (fun H=>zed O H) (G L 0) (G L 1) (G L 7) k2 (G L 8) H) (fun k2=>p5 q0))) q0)) q0))
theorem zph:(aM Tryz.prog 137).f O [x0,x1,x2] H=zCz O x0 x1 x2 H:=
 r7 Tryz.func137 (D:=fun L H=>zyw O (G L 0) (G L 1) (G L 2) H)
 (p5 (q6 (q6 q0 (q6 (r8 (pT (D:=fun k2 L H=>qxi O (fun x6 x7 H=>.ok (.aX [x6,x7]) H) (fun x6 H=>zvb O x6 H) (G L 0) (G L 1) (G L 11) (G L 12) k2 (G L 6) (G L 13) H) (fun k2=>p5 q0))) q0)) q0))
theorem zo7:(aM Tryz.prog 211).f O [x0,x1] H=zDj O x0 x1 H:=
 r7 Tryz.func211 (D:=fun L H=>zyo O (G L 0) (G L 1) H)
 (p5 (q6 (q6 q0 (q6 (r8 (pT (D:=fun k2 L H=>q6i O (fun x4 H=>.ok x4 H) (fun H=>zu9 O H) (G L 0) (G L 1) (G L 7) k2 (G L 8) H) (fun k2=>p5 q0))) q0)) q0))
theorem zq2:(aM Tryz.prog 52).f O [x0,x1,x2] H=zAs O x0 x1 x2 H:=
 r7 Tryz.func52 (D:=fun L H=>zz4 O (G L 0) (G L 1) (G L 2) H)
 (p5 (q6 (q6 (q6 q0 (q6 (r8 (pT (D:=fun k4 L H=>q7c O (fun x6 H=>.ok x6 H) (fun H=>zhn O H) (G L 1) (G L 2) (G L 7) k4 (G L 8) H) (fun k4=>p5 q0))) q0)) q0) q0))
theorem zpn:(aM Tryz.prog 93).f O [x0] H=zCt O x0 H:=
 r7 Tryz.func93 (D:=fun L H=>zy0 O (G L 0) H)
 (p5 (q6 (q6 (q6 q0 (q6 (r8 (pT (D:=fun k2 L H=>q6o O (fun x2 H=>.ok x2 H) (fun H=>zfa O (G L 3) H) (G L 3) (G L 6) (G L 7) k2 (G L 8) H) (fun k2=>p5 q0))) q0)) q0) q0))
theorem zoj:(aM Tryz.prog 82).f O [x0,x1] H=zEo O x0 x1 H:=
 r7 Tryz.func82 (D:=fun L H=>zx2 O (G L 0) (G L 1) H)
 (p5 (q6 (q6 (p5 (E:=fun L H=>zdq O (G L 2) (G L 3) H) q0) q0) q0))
theorem zog:(aM Tryz.prog 98).f O [x0] H=zEt O x0 H:=
 r7 Tryz.func98 (D:=fun L H=>zxz O (G L 0) H)
 (p5 (q6 (q6 (p5 (E:=fun L H=>zdo O (G L 1) H) q0) q0) q0))
theorem zo2:(aM Tryz.prog 168).f O [x0,x1] H=zDo O x0 x1 H:=
 r7 Tryz.func168 (D:=fun L H=>zyk O (G L 0) (G L 1) H)
 (p5 q0)
theorem zqm:(aM Tryz.prog 86).f O [x0,x1,x2,x3,x4,x5,x6] H=zBl O x0 x1 x2 x3 x4 x5 x6 H:=
 r7 Tryz.func86 (D:=fun L H=>zzr O (G L 0) (G L 1) (G L 2) (G L 3) (G L 4) (G L 5) (G L 6) H)
 (p5 q0)
theorem zpa:(aM Tryz.prog 65).f O [x0,x1] H=zDf O x0 x1 H:=
 r7 Tryz.func65 (D:=fun L H=>zyr O (G L 0) (G L 1) H)
 (p5 q0)
theorem zqb:(aM Tryz.prog 109).f O [x0,x1,x2] H=zBv O x0 x1 x2 H:=
 r7 Tryz.func109 (D:=fun L H=>zzj O (G L 0) (G L 1) (G L 2) H)
 (p5 q0)
theorem znv:(aM Tryz.prog 63).f O [x0,x1] H=zFu O x0 x1 H:=
 r7 Tryz.func63 (D:=fun L H=>zxh O (G L 0) (G L 1) H)
 (p5 q0)
theorem zn9:(aM Tryz.prog 10).f O [x0] H=zFb O x0 H:=
 r7 Tryz.func10 (D:=fun L H=>zxs O (G L 0) H)
 (p5 q0)
theorem zo3:(aM Tryz.prog 169).f O [x0,x1] H=zDn O x0 x1 H:=
 r7 Tryz.func169 (D:=fun L H=>zyl O (G L 0) (G L 1) H)
 (p5 q0)
theorem zp0:(aM Tryz.prog 121).f O [x0] H=zCg O x0 H:=
 r7 Tryz.func121 (D:=fun L H=>zzb O (G L 0) H)
 (p5 q0)
theorem zqu:(aM Tryz.prog 120).f O [x0] H=zBd O x0 H:=
 r7 Tryz.func120 (D:=fun L H=>zqv O (G L 0) H)
 (p5 q0)
theorem zpg:(aM Tryz.prog 139).f O [x0,x1] H=zDa O x0 x1 H:=
 r7 Tryz.func139 (D:=fun L H=>zyv O (G L 0) (G L 1) H)
 (p5 q0)
theorem zq8:(aM Tryz.prog 47).f O [x0] H=zAn O x0 H:=
 r7 Tryz.func47 (D:=fun L H=>zz9 O (G L 0) H)
 (p5 q0)
theorem zpf:(aM Tryz.prog 141).f O [x0] H=zDb O x0 H:=
 r7 Tryz.func141 (D:=fun L H=>zyu O (G L 0) H)
 (p5 q0)
theorem zqg:(aM Tryz.prog 91).f O [x0] H=zBq O x0 H:=
 r7 Tryz.func91 (D:=fun L H=>zzn O (G L 0) H)
 (p5 q0)
def qr7(O:Ev.Call)(k5:Nat)(k8:Nat)(L:TT AV (iO (Tryz.f24.ntmps+1))):=fun x10 H=>qn7 O (fun H=>qn9 O (fun x8 H=>qkj O (fun H=>qrx O (G L 2) (G L 3) H) (G L 3) k5 x8 H) (G L 8) H) (G L 9) k8 x10 H
def qr6(O:Ev.Call)(k61:Nat)(L:TT AV (iO (Tryz.f24.ntmps+1))):=fun x4 H=>qki O (fun H=>qn8 O (G L 2) (G L 3) H) (G L 1) (G L 3) k61 x4 H
def qr5(O:Ev.Call)(k5:Nat)(L:TT AV (iO (Tryz.f24.ntmps+1))):=fun x8 H=>qkj O (fun H=>qrx O (G L 2) (G L 3) H) (G L 3) k5 x8 H
def zid(O:Ev.Call)(k5:Nat)(k8:Nat)(L:TT AV (iO (Tryz.f24.ntmps+1))):=fun dH H=>q35 O (qr7 O k5 k8 L) (G L 9) (G L 10) dH H
def zic(O:Ev.Call)(k5:Nat)(k8:Nat)(k16:Nat)(L:TT AV (iO (Tryz.f24.ntmps+1))):=fun dH bA H=>qn6 O (zid O k5 k8 L) (G L 9) (G L 10) k16 dH bA H
theorem zrb:(aM Tryz.prog 24).f O [x0] H=zAc O x0 H:=
 r7 Tryz.func24 (D:=fun L H=>z0c O (G L 0) H)
 (p5 (q6 (q6 (pS qn3 (fun x L H=>x O (G L 1) (G L 2) (G L 3) H) (p5 (q6 (pS qrz (fun x L H=>x O (G L 2) (G L 3) H) (p5 (q6 (pS qxu (fun x L H=>x O (G L 2) (G L 3) H) (p5 q0)) (q6 (r8 (pT (D:=fun k5 L H=>qkj O (fun H=>qrx O (G L 2) (G L 3) H) (G L 3) k5 (G L 8) H) (fun k5=>p5 (q6 (pS qr0 (fun x L H=>x O (qr5 O k5 L) (G L 3) (G L 8) H) (p5 (q6 (pS qr4 (fun x L H=>x O (qr5 O k5 L) (G L 8) H) (p5 q0)) (r8 (q6 (pS qrs (fun x L H=>x O (qr5 O k5 L) (G L 8) (G L 9) H) (p5 (q6 (r8 (pT (D:=fun k8 L H=>qn7 O (fun H=>qn9 O (qr5 O k5 L) (G L 8) H) (G L 9) k8 (G L 10) H) (fun k8=>p5 (q6 (pS qr1 (fun x L H=>x O (qr7 O k5 k8 L) (G L 9) (G L 10) H) (p5 (q6 (pS qkm (fun x L H=>x O (qr7 O k5 k8 L) (G L 10) H) (p5 q0)) (r8 (q6 (pS qru (fun x L H=>x O (qr7 O k5 k8 L) (G L 9) (G L 10) (G L 11) H) (p5 (q6 (pS qr3 (fun x L H=>x O (qr7 O k5 k8 L) (G L 9) (G L 10) (G L 11) H) (p5 q0)) (q6 (r8 (pT (D:=fun k16 L H=>qn6 O (zid O k5 k8 L) (G L 9) (G L 10) k16 (G L 11) (G L 12) H) (fun k16=>p5 (q6 (pS qr2 (fun x L H=>x O (zic O k5 k8 k16 L) (G L 9) (G L 10) (G L 11) (G L 12) H) (p5 (q6 (pS qkl (fun x L H=>x O (zic O k5 k8 k16 L) (G L 11) (G L 12) H) (p5 q0)) q0))) (q6 (pS qrv (fun x L H=>x O (zic O k5 k8 k16 L) (zid O k5 k8 L) (G L 9) (G L 10) (G L 11) (G L 12) (G L 90) H) (p5 q0)) q0))))) q0)))) q0))))) (q6 (pS qrt (fun x L H=>x O (qr7 O k5 k8 L) (fun H=>qn9 O (qr5 O k5 L) (G L 8) H) (G L 9) (G L 10) (G L 78) H) (p5 q0)) q0))))) q0))) q0))))) (q6 (pS qrr (fun x L H=>x O (qr5 O k5 L) (fun H=>qrx O (G L 2) (G L 3) H) (G L 3) (G L 8) (G L 66) H) (p5 q0)) q0))))) q0)))) (q6 (r8 (pT (D:=fun k61 L H=>qki O (fun H=>qn8 O (G L 2) (G L 3) H) (G L 1) (G L 3) k61 (G L 4) H) (fun k61=>p5 (q6 (pS qh7 (fun x L H=>x O (qr6 O k61 L) (G L 1) (G L 3) (G L 4) H) (p5 (q6 (pS qry (fun x L H=>x O (qr6 O k61 L) (G L 4) H) (p5 q0)) (r8 (q6 (pS qrw (fun x L H=>x O (qr6 O k61 L) (G L 1) (G L 3) (G L 4) H) (p5 (q6 (pS qrp (fun x L H=>x O (qr6 O k61 L) (G L 1) (G L 3) (G L 4) (G L 5) H) (p5 (q6 (pS qrq (fun x L H=>x O (qr6 O k61 L) (G L 1) (G L 4) (G L 5) (G L 7) H) (p5 q0)) q0))) q0))) q0))))) (q6 (pS qn5 (fun x L H=>x O (qr6 O k61 L) (fun H=>qn8 O (G L 2) (G L 3) H) (G L 1) (G L 3) (G L 4) (G L 19) H) (p5 q0)) q0))))) q0)))) q0) q0))
theorem zn7:(aM Tryz.prog 15).f O [x0,x1] H=zFg O x0 x1 H:=
 r7 Tryz.func15 (D:=fun L H=>zxq O (G L 0) (G L 1) H)
 (p5 (q6 (q6 (q6 (q6 (q6 (p5 (E:=fun L H=>qhr O (G L 5) H) q0) (q6 (r8 (p5 (E:=fun L H=>zc8 O (fun x5 H=>qhr O x5 H) (G L 6) (G L 7) (G L 5) (G L 8) H) (pT (D:=fun k5 L H=>qhq O (fun x5 H=>qhr O x5 H) (G L 6) (G L 7) k5 (G L 5) (G L 8) H) (fun k5=>p5 (q6 (p5 (E:=fun L H=>q06 O (fun x5 x8 H=>qhq O (fun x5 H=>qhr O x5 H) (G L 6) (G L 7) k5 x5 x8 H) (G L 5) (G L 6) (G L 7) (G L 8) H) (q6 (p5 (E:=fun L H=>qm8 O (fun x5 x8 H=>qhq O (fun x5 H=>qhr O x5 H) (G L 6) (G L 7) k5 x5 x8 H) (G L 5) (G L 8) H) q0) (r8 (q6 (r8 (p5 (E:=fun L H=>zc7 O (fun x5 H=>qm8 O (fun x5 x8 H=>qhq O (fun x5 H=>qhr O x5 H) (G L 6) (G L 7) k5 x5 x8 H) x5 (G L 8) H) (G L 6) (G L 7) (G L 8) (G L 5) (G L 9) H) (pT (D:=fun k8 L H=>qq2 O (fun x5 H=>qm8 O (fun x5 x8 H=>qhq O (fun x5 H=>qhr O x5 H) (G L 6) (G L 7) k5 x5 x8 H) x5 (G L 8) H) (G L 6) (G L 7) (G L 8) k8 (G L 5) (G L 9) H) (fun k8=>p5 (q6 (p5 (E:=fun L H=>q07 O (fun x5 x9 H=>qq2 O (fun x5 H=>qm8 O (fun x5 x8 H=>qhq O (fun x5 H=>qhr O x5 H) (G L 6) (G L 7) k5 x5 x8 H) x5 (G L 8) H) (G L 6) (G L 7) (G L 8) k8 x5 x9 H) (G L 5) (G L 6) (G L 7) (G L 8) (G L 9) H) (q6 (p5 (E:=fun L H=>qm9 O (fun x5 x9 H=>qq2 O (fun x5 H=>qm8 O (fun x5 x8 H=>qhq O (fun x5 H=>qhr O x5 H) (G L 6) (G L 7) k5 x5 x8 H) x5 (G L 8) H) (G L 6) (G L 7) (G L 8) k8 x5 x9 H) (G L 5) (G L 9) H) q0) q0)) q0))) (fun _ _=>by kernel_rfl))) q0)))) q0))) (fun _ _=>by kernel_rfl))) q0)) q0) q0) q0) q0))
def qxm(O:Ev.Call)(k1:Nat)(L:TT AV (iO (Tryz.f135.ntmps+1))):=fun bA H=>qrh O (fun x4 H=>.ok x4 H) (fun H=>q6j O H) (G L 0) (G L 1) (G L 10) (G L 11) k1 bA H
theorem zpi:(aM Tryz.prog 135).f O [x0,x1] H=zCy O x0 x1 H:=
 r7 Tryz.func135 (D:=fun L H=>zyx O (G L 0) (G L 1) H)
 (p5 (q6 (q6 (pS qxl (fun x L H=>x O H) (p5 q0)) (q6 (pS qre (fun x L H=>x O (G L 0) (G L 1) (G L 10) (G L 11) (G L 12) H) (p5 (r8 (pT (D:=fun k1 L H=>qrh O (fun x4 H=>.ok x4 H) (fun H=>q6j O H) (G L 0) (G L 1) (G L 10) (G L 11) k1 (G L 12) H) (fun k1=>p5 (q6 (q6 (pS qri (fun x L H=>x O (fun x4 H=>.ok x4 H) (qxm O k1 L) (G L 0) (G L 1) (G L 10) (G L 12) H) (p5 (q6 (pS qxk (fun x L H=>x O (qxm O k1 L) (G L 12) H) (p5 q0)) (r8 (q6 (pS qrf (fun x L H=>x O (fun x4 H=>.ok x4 H) (qxm O k1 L) (G L 0) (G L 1) (G L 5) (G L 6) (G L 12) H) (p5 (r8 (q6 (pS qrg (fun x L H=>x O (fun x4 H=>.ok x4 H) (qxm O k1 L) (G L 1) (G L 5) (G L 6) (G L 12) (G L 17) H) (p5 (pB q0 (q6 (pS qxj (fun x L H=>x O (fun x4 H=>.ok x4 H) (qxm O k1 L) (G L 12) (G L 40) H) (p5 q0)) q0)))) q0)))) q0))))) q0) q0)))))) q0)) q0))
theorem zn0:(aM Tryz.prog 33).f O [x0,x1] H=zFn O x0 x1 H:=
 r7 Tryz.func33 (D:=fun L H=>zxk O (G L 0) (G L 1) H)
 (p5 (q6 (q6 (p5 (E:=fun L H=>q02 O (G L 0) (G L 3) H) (q6 (q6 (q6 (p5 (E:=fun L H=>qld O (G L 3) (G L 5) (G L 6) H) (q6 (p5 (E:=fun L H=>zcr O (G L 5) H) q0) q0)) (q6 (r8 (p5 (E:=fun L H=>zct O (fun x5 x6 H=>qld O (G L 3) x5 x6 H) (G L 0) (G L 3) (G L 5) (G L 6) (G L 7) H) (pT (D:=fun k7 L H=>qlc O (fun x5 x6 H=>qld O (G L 3) x5 x6 H) (G L 0) (G L 3) k7 (G L 5) (G L 6) (G L 7) H) (fun k7=>p5 (q6 (p5 (E:=fun L H=>q03 O (fun x5 x6 x7 H=>qlc O (fun x5 x6 H=>qld O (G L 3) x5 x6 H) (G L 0) (G L 3) k7 x5 x6 x7 H) (G L 0) (G L 3) (G L 5) (G L 6) (G L 7) H) (q6 (p5 (E:=fun L H=>zcq O (fun x5 x6 x7 H=>qlc O (fun x5 x6 H=>qld O (G L 3) x5 x6 H) (G L 0) (G L 3) k7 x5 x6 x7 H) (G L 5) (G L 6) (G L 7) H) q0) (r8 (q6 (p5 (E:=fun L H=>qm7 O (fun x5 x6 x7 H=>qlc O (fun x5 x6 H=>qld O (G L 3) x5 x6 H) (G L 0) (G L 3) k7 x5 x6 x7 H) (G L 0) (G L 5) (G L 6) (G L 7) H) q0) q0)))) q0))) (fun _ _=>by kernel_rfl))) q0)) q0) q0)) q0) q0))
theorem zov:(aM Tryz.prog 16).f O [x0,x1] H=zDz O x0 x1 H:=
 r7 Tryz.func16 (D:=fun L H=>zye O (G L 0) (G L 1) H)
 (p5 (q6 (q6 (p5 (E:=fun L H=>q14 O (G L 1) (G L 2) H) (q6 (q6 (p5 (E:=fun L H=>qnj O (G L 1) H) q0) (q6 (r8 (p5 (E:=fun L H=>zea O (fun x4 x5 H=>.ok (.aX [x4,x5]) H) (fun H=>qnj O (G L 1) H) (G L 7) (G L 18) (G L 19) (G L 20) H) (pT (D:=fun k6 L H=>qrd O (fun x4 x5 H=>.ok (.aX [x4,x5]) H) (fun H=>qnj O (G L 1) H) (G L 7) (G L 18) (G L 19) k6 (G L 20) H) (fun k6=>p5 (q6 (q6 (p5 (E:=fun L H=>q15 O (fun x4 x5 H=>.ok (.aX [x4,x5]) H) (fun x20 H=>qrd O (fun x4 x5 H=>.ok (.aX [x4,x5]) H) (fun H=>qnj O (G L 1) H) (G L 7) (G L 18) (G L 19) k6 x20 H) (G L 7) (G L 18) (G L 20) H) (q6 (p5 (E:=fun L H=>zd8 O (fun x20 H=>qrd O (fun x4 x5 H=>.ok (.aX [x4,x5]) H) (fun H=>qnj O (G L 1) H) (G L 7) (G L 18) (G L 19) k6 x20 H) (G L 20) H) q0) q0)) q0) q0))) (fun _ _=>by kernel_rfl))) q0)) q0)) q0) q0))
theorem zob:(aM Tryz.prog 163).f O [x0] H=zEy O x0 H:=
 r7 Tryz.func163 (D:=fun L H=>zxu O (G L 0) H)
 (p5 (q6 (q6 (p5 (E:=fun L H=>q1f O (G L 0) H) (q6 (p5 (E:=fun L H=>qnb O H) q0) (q6 (r8 (p5 (E:=fun L H=>zdg O (fun x2 H=>.ok x2 H) (fun H=>qnb O H) (G L 0) (G L 13) (G L 14) H) (pT (D:=fun k2 L H=>qna O (fun x2 H=>.ok x2 H) (fun H=>qnb O H) (G L 0) (G L 13) k2 (G L 14) H) (fun k2=>p5 (q6 (q6 (p5 (E:=fun L H=>q1g O (fun x2 H=>.ok x2 H) (fun aZ H=>qna O (fun x2 H=>.ok x2 H) (fun H=>qnb O H) (G L 0) (G L 13) k2 aZ H) (G L 0) (G L 14) H) (q6 (p5 (E:=fun L H=>q6e O (fun aZ H=>qna O (fun x2 H=>.ok x2 H) (fun H=>qnb O H) (G L 0) (G L 13) k2 aZ H) (G L 14) H) q0) q0)) q0) q0))) (fun _ _=>by kernel_rfl))) q0))) q0) q0))
theorem znw:(aM Tryz.prog 62).f O [x0,x1] H=zFt O x0 x1 H:=
 r7 Tryz.func62 (D:=fun L H=>zxi O (G L 0) (G L 1) H)
 (p5 (q6 (q6 (p5 (E:=fun L H=>qqw O H) q0) (q6 (r8 (p5 (E:=fun L H=>zcp O (fun x4 H=>.ok x4 H) (fun H=>qqw O H) (G L 0) (G L 3) (G L 5) H) (pT (D:=fun k2 L H=>qqv O (fun x4 H=>.ok x4 H) (fun H=>qqw O H) (G L 0) (G L 3) k2 (G L 5) H) (fun k2=>p5 (q6 (p5 (E:=fun L H=>zcm O (fun x4 H=>.ok x4 H) (fun x5 H=>qqv O (fun x4 H=>.ok x4 H) (fun H=>qqw O H) (G L 0) (G L 3) k2 x5 H) (G L 0) (G L 3) (G L 5) H) (q6 (p5 (E:=fun L H=>zcn O (fun x5 H=>qqv O (fun x4 H=>.ok x4 H) (fun H=>qqw O H) (G L 0) (G L 3) k2 x5 H) (G L 5) H) q0) q0)) q0))) (fun _ _=>by kernel_rfl))) q0)) q0))
theorem zom:(aM Tryz.prog 54).f O [x0,x1] H=zEj O x0 x1 H:=
 r7 Tryz.func54 (D:=fun L H=>zx5 O (G L 0) (G L 1) H)
 (p5 (q6 (q6 (p5 (E:=fun L H=>qne O H) q0) (q6 (r8 (p5 (E:=fun L H=>zdw O (fun x4 H=>.ok x4 H) (fun H=>qne O H) (G L 0) (G L 3) (G L 5) H) (pT (D:=fun k2 L H=>qq6 O (fun x4 H=>.ok x4 H) (fun H=>qne O H) (G L 0) (G L 3) k2 (G L 5) H) (fun k2=>p5 (q6 (p5 (E:=fun L H=>zdt O (fun x4 H=>.ok x4 H) (fun x5 H=>qq6 O (fun x4 H=>.ok x4 H) (fun H=>qne O H) (G L 0) (G L 3) k2 x5 H) (G L 0) (G L 3) (G L 5) H) (q6 (p5 (E:=fun L H=>zdu O (fun x5 H=>qq6 O (fun x4 H=>.ok x4 H) (fun H=>qne O H) (G L 0) (G L 3) k2 x5 H) (G L 5) H) q0) q0)) q0))) (fun _ _=>by kernel_rfl))) q0)) q0))
theorem zpm:(aM Tryz.prog 150).f O [x0,x1] H=zCu O x0 x1 H:=
 r7 Tryz.func150 (D:=fun L H=>z4f O (G L 0) (G L 1) H)
 (p5 (qS (q6 (q6 (q6 (r8 (pT (D:=fun k3 L H=>qrk O (fun H=>.ok (.aX []) H) (G L 0) k3 (G L 4) H) (fun k3=>p5 (q6 (r8 (q6 (q6 q0 (r8 (pT (D:=fun k42 L H=>qt7 O (fun x4 H=>qrk O (fun H=>.ok (.aX []) H) (G L 0) k3 x4 H) (fun x4 H=>qt8 O (fun x4 H=>qrk O (fun H=>.ok (.aX []) H) (G L 0) k3 x4 H) (G L 0) x4 (G L 5) H) (G L 0) (G L 5) k42 (G L 4) H) (fun k42=>p5 (q6 (r8 (q6 (q6 (q6 q0 q0) q0) q0)) q0))))) q0)) q0)))) q0) q0) q0)))
theorem zqf:(aM Tryz.prog 108).f O [x0] H=zBr O x0 H:=
 r7 Tryz.func108 (D:=fun L H=>zzm O (G L 0) H)
 (p5 (q6 (q6 (q6 q0 (q6 (r8 (pT (D:=fun k10 L H=>qnt O (fun H=>zge O (G L 3) H) (G L 3) (G L 16) (G L 17) k10 (G L 18) H) (fun k10=>p5 (q6 (q6 (q6 q0 (r8 (q6 (q6 (q6 (r8 (pT (D:=fun k31 L H=>qug O (fun H=>q20 O (fun x18 H=>qnt O (fun H=>zge O (G L 3) H) (G L 3) (G L 16) (G L 17) k10 x18 H) (G L 18) H) (G L 3) (G L 5) (G L 32) k31 (G L 33) H) (fun k31=>p5 q0))) q0) q0) q0))) q0) q0)))) q0)) q0) q0))
theorem qqc:(aM Tryz.prog 123).f O [x0] H=jS O x0 H:=
 r7 Tryz.func123 (D:=fun L H=>qif O (G L 0) H)
 (p5 (q6 (q6 (q6 q0 (q6 (r8 (pT (D:=fun k1 L H=>qeh O (fun x2 H=>.ok x2 H) (fun H=>qgj O (G L 0) H) (G L 0) k1 (G L 3) H) (fun k1=>p5 (q6 (q6 q0 (r8 (q6 (pB (q6 (q6 q0 (q6 (r8 (pT (D:=fun k15 L H=>qdn O (fun x3 H=>qfn O (fun x2 H=>.ok x2 H) (G L 0) x3 H) (G L 0) (G L 4) k15 (G L 3) (G L 5) H) (fun k15=>p5 q0))) q0)) q0) q0) q0))) q0)))) q0)) q0) q0))
theorem zo1:(aM Tryz.prog 198).f O [x0,x1] H=zDp O x0 x1 H:=
 r7 Tryz.func198 (D:=fun L H=>zyj O (G L 0) (G L 1) H)
 (p5 (q6 (q6 q0 (q6 (r8 (pT (D:=fun k2 L H=>q6g O (fun x4 H=>.ok x4 H) (fun H=>zeh O H) (G L 0) (G L 1) (G L 7) k2 (G L 8) H) (fun k2=>p5 q0))) q0)) q0))
theorem zo4:(aM Tryz.prog 99).f O [x0,x1] H=zDm O x0 x1 H:=
 r7 Tryz.func99 (D:=fun L H=>zym O (G L 0) (G L 1) H)
 (p5 (q6 (q6 q0 (q6 (r8 (pT (D:=fun k3 L H=>q6h O (fun x4 H=>.ok x4 H) (fun H=>zek O H) (G L 0) (G L 3) (G L 7) k3 (G L 8) H) (fun k3=>p5 q0))) q0)) q0))
theorem zqs:(aM Tryz.prog 77).f O [x0,x1,x2,x3] H=zBf O x0 x1 x2 x3 H:=
 r7 Tryz.func77 (D:=fun L H=>zzy O (G L 0) (G L 1) (G L 2) (G L 3) H)
 (p5 (q6 (q6 (q6 q0 (q6 (r8 (pT (D:=fun k12 L H=>qum O (fun x9 H=>zg2 O (G L 2) (G L 8) x9 H) (G L 1) (G L 3) (G L 4) k12 (G L 9) (G L 10) H) (fun k12=>p5 q0))) q0)) q0) q0))
theorem zpz:(aM Tryz.prog 131).f O [x0] H=zCi O x0 H:=
 r7 Tryz.func131 (D:=fun L H=>zza O (G L 0) H)
 (p5 (q6 (q6 (q6 q0 (q6 (r8 (pT (D:=fun k8 L H=>q6q O (fun x2 H=>.ok x2 H) (fun H=>zfd O (G L 1) H) (G L 16) (G L 17) k8 (G L 18) H) (fun k8=>p5 q0))) q0)) q0) q0))
theorem zq5:(aM Tryz.prog 49).f O [x0,x1,x2,x3,x4] H=zAp O x0 x1 x2 x3 x4 H:=
 r7 Tryz.func49 (D:=fun L H=>zq6 O (G L 0) (G L 1) (G L 2) (G L 3) (G L 4) H)
 (p5 (q6 (q6 (q6 (q6 (q6 (q6 (p5 (E:=fun L H=>qh6 O (G L 1) (G L 2) (G L 3) (G L 4) (G L 5) (G L 10) (G L 13) H) q0) q0) q0) q0) q0) q0) q0))
theorem zpu:(aM Tryz.prog 132).f O [x0] H=zCn O x0 H:=
 r7 Tryz.func132 (D:=fun L H=>zy5 O (G L 0) H)
 (p5 (q6 (q6 q0 (q6 (r8 (pT (D:=fun k2 L H=>q6p O (fun x2 H=>.ok x2 H) (fun H=>zvp O H) (G L 6) (G L 7) k2 (G L 8) H) (fun k2=>p5 q0))) q0)) q0))
theorem zol:(aM Tryz.prog 55).f O [x0,x1] H=zEk O x0 x1 H:=
 r7 Tryz.func55 (D:=fun L H=>zx4 O (G L 0) (G L 1) H)
 (p5 (q6 (q6 (p5 (E:=fun L H=>zds O (G L 2) (G L 3) H) q0) q0) q0))
theorem znx:(aM Tryz.prog 59).f O [x0] H=zFs O x0 H:=
 r7 Tryz.func59 (D:=fun L H=>zxj O (G L 0) H)
 (p5 q0)
theorem znz:(aM Tryz.prog 61).f O [x0,x1] H=zFq O x0 x1 H:=
 r7 Tryz.func61 (D:=fun L H=>z4a O (G L 0) (G L 1) H)
 (p5 q0)
theorem znu:(aM Tryz.prog 95).f O [x0] H=zFv O x0 H:=
 r7 Tryz.func95 (D:=fun L H=>z3z O (G L 0) H)
 (p5 q0)
theorem zpr:(aM Tryz.prog 142).f O [x0] H=zCp O x0 H:=
 r7 Tryz.func142 (D:=fun L H=>zy4 O (G L 0) H)
 (p5 q0)
theorem zql:(aM Tryz.prog 87).f O [x0,x1,x2,x3] H=zBm O x0 x1 x2 x3 H:=
 r7 Tryz.func87 (D:=fun L H=>zzq O (G L 0) (G L 1) (G L 2) (G L 3) H)
 (p5 q0)
theorem zoc:(aM Tryz.prog 129).f O [x0] H=zEx O x0 H:=
 r7 Tryz.func129 (D:=fun L H=>zxv O (G L 0) H)
 (p5 q0)
theorem zpd:(aM Tryz.prog 181).f O [x0,x1] H=zDd O x0 x1 H:=
 r7 Tryz.func181 (D:=fun L H=>zys O (G L 0) (G L 1) H)
 (p5 q0)
theorem zo6:(aM Tryz.prog 213).f O [x0] H=zDk O x0 H:=
 r7 Tryz.func213 (D:=fun L H=>zyn O (G L 0) H)
 (p5 q0)
theorem zpp:(aM Tryz.prog 144).f O [x0,x1] H=zCr O x0 x1 H:=
 r7 Tryz.func144 (D:=fun L H=>zy2 O (G L 0) (G L 1) H)
 (p5 q0)
theorem zp6:(aM Tryz.prog 113).f O [x0,x1] H=zBz O x0 x1 H:=
 r7 Tryz.func113 (D:=fun L H=>zzg O (G L 0) (G L 1) H)
 (p5 q0)
theorem zo5:(aM Tryz.prog 212).f O [x0] H=zDl O x0 H:=
 r7 Tryz.func212 (D:=fun L H=>z4d O (G L 0) H)
 (p5 q0)
theorem zpj:(aM Tryz.prog 165).f O [x0] H=zCx O x0 H:=
 r7 Tryz.func165 (D:=fun L H=>zyy O (G L 0) H)
 (p5 q0)
theorem zqn:(aM Tryz.prog 85).f O [x0] H=zBk O x0 H:=
 r7 Tryz.func85 (D:=fun L H=>zzs O (G L 0) H)
 (p5 q0)
theorem zq4:(aM Tryz.prog 50).f O [x0] H=zAq O x0 H:=
 r7 Tryz.func50 (D:=fun L H=>zz7 O (G L 0) H)
 (p5 q0)
theorem zor:(aM Tryz.prog 26).f O [x0] H=zEd O x0 H:=
 r7 Tryz.func26 (D:=fun L H=>zya O (G L 0) H)
 (p5 (q6 (q6 (q6 (p5 (E:=fun L H=>qef O (G L 3) H) q0) (q6 (r8 (p5 (E:=fun L H=>zd1 O (fun x3 H=>qef O x3 H) (G L 0) (G L 3) (G L 4) H) (pT (D:=fun k1 L H=>qee O (fun x3 H=>qef O x3 H) (G L 0) k1 (G L 3) (G L 4) H) (fun k1=>p5 (q6 (p5 (E:=fun L H=>q1s O (fun x3 x4 H=>qee O (fun x3 H=>qef O x3 H) (G L 0) k1 x3 x4 H) (G L 0) (G L 3) (G L 4) H) (q6 (p5 (E:=fun L H=>qq7 O (fun x3 x4 H=>qee O (fun x3 H=>qef O x3 H) (G L 0) k1 x3 x4 H) (G L 3) (G L 4) H) q0) (r8 (q6 (p5 (E:=fun L H=>q1u O (fun x3 x4 H=>qee O (fun x3 H=>qef O x3 H) (G L 0) k1 x3 x4 H) (G L 0) (G L 3) (G L 4) H) (q6 (q6 (q6 (p5 (E:=fun L H=>qgd O (fun x3 x4 H=>qee O (fun x3 H=>qef O x3 H) (G L 0) k1 x3 x4 H) (G L 0) (G L 4) (G L 5) (G L 6) H) (q6 (p5 (E:=fun L H=>qxg O (fun x3 x4 H=>qee O (fun x3 H=>qef O x3 H) (G L 0) k1 x3 x4 H) (G L 4) (G L 5) H) q0) q0)) (q6 (r8 (p5 (E:=fun L H=>q1y O (fun x5 x6 H=>qgd O (fun x3 x4 H=>qee O (fun x3 H=>qef O x3 H) (G L 0) k1 x3 x4 H) (G L 0) (G L 4) x5 x6 H) (G L 0) (G L 3) (G L 4) (G L 5) (G L 6) (G L 7) H) (pT (D:=fun k11 L H=>qgc O (fun x5 x6 H=>qgd O (fun x3 x4 H=>qee O (fun x3 H=>qef O x3 H) (G L 0) k1 x3 x4 H) (G L 0) (G L 4) x5 x6 H) (G L 0) (G L 3) (G L 4) k11 (G L 5) (G L 6) (G L 7) H) (fun k11=>p5 (q6 (p5 (E:=fun L H=>q1v O (fun x5 x6 x7 H=>qgc O (fun x5 x6 H=>qgd O (fun x3 x4 H=>qee O (fun x3 H=>qef O x3 H) (G L 0) k1 x3 x4 H) (G L 0) (G L 4) x5 x6 H) (G L 0) (G L 3) (G L 4) k11 x5 x6 x7 H) (G L 0) (G L 3) (G L 4) (G L 5) (G L 6) (G L 7) H) (q6 (p5 (E:=fun L H=>q1w O (fun x5 x6 x7 H=>qgc O (fun x5 x6 H=>qgd O (fun x3 x4 H=>qee O (fun x3 H=>qef O x3 H) (G L 0) k1 x3 x4 H) (G L 0) (G L 4) x5 x6 H) (G L 0) (G L 3) (G L 4) k11 x5 x6 x7 H) (G L 5) (G L 6) (G L 7) H) q0) (r8 (q6 (p5 (E:=fun L H=>qng O (fun x5 x6 x7 H=>qgc O (fun x5 x6 H=>qgd O (fun x3 x4 H=>qee O (fun x3 H=>qef O x3 H) (G L 0) k1 x3 x4 H) (G L 0) (G L 4) x5 x6 H) (G L 0) (G L 3) (G L 4) k11 x5 x6 x7 H) (G L 3) (G L 5) (G L 6) (G L 7) H) q0) q0)))) q0))) (fun _ _=>by kernel_rfl))) q0)) q0) q0)) q0)))) q0))) (fun _ _=>by kernel_rfl))) q0)) q0) q0))
theorem zny:(aM Tryz.prog 60).f O [x0] H=zFr O x0 H:=
 r7 Tryz.func60 (D:=fun L H=>zbw O 2 oZ iF (G L 0) H)
 (p5 (q6 (q6 (p5 (E:=fun L H=>q5q O 2 oZ iF (G L 0) H) (q6 (p5 (E:=fun L H=>qpv O 2 oZ iF (G L 0) H) q0) (q6 (r8 (p5 (E:=fun L H=>zmq O 2 oZ iF (fun x2 H=>.ok x2 H) (fun H=>qpv O 2 oZ iF (G L 0) H) (G L 0) (G L 3) H) (pT (D:=fun k1 L H=>qpt O 2 oZ iF (fun x2 H=>.ok x2 H) (fun H=>qpv O 2 oZ iF (G L 0) H) (G L 0) k1 (G L 3) H) (fun k1=>p5 (q6 (p5 (E:=fun L H=>q5s O 2 oZ iF (fun x2 H=>.ok x2 H) (fun x3 H=>qpt O 2 oZ iF (fun x2 H=>.ok x2 H) (fun H=>qpv O 2 oZ iF (G L 0) H) (G L 0) k1 x3 H) (G L 0) (G L 3) H) (q6 (p5 (E:=fun L H=>zmo O 2 oZ iF (fun x3 H=>qpt O 2 oZ iF (fun x2 H=>.ok x2 H) (fun H=>qpv O 2 oZ iF (G L 0) H) (G L 0) k1 x3 H) (G L 3) H) q0) (r8 (q6 (pB (q6 (q6 (p5 (E:=fun L H=>qfx O 2 oZ iF (fun x2 H=>.ok x2 H) (G L 0) (G L 3) H) q0) (q6 (r8 (p5 (E:=fun L H=>q5v O 2 oZ iF (fun x3 H=>qfx O 2 oZ iF (fun x2 H=>.ok x2 H) (G L 0) x3 H) (G L 0) (G L 4) (G L 3) (G L 5) H) (pT (D:=fun k15 L H=>qgu O 2 oZ iF (fun x3 H=>qfx O 2 oZ iF (fun x2 H=>.ok x2 H) (G L 0) x3 H) (G L 0) (G L 4) k15 (G L 3) (G L 5) H) (fun k15=>p5 (q6 (p5 (E:=fun L H=>q5t O 2 oZ iF (fun x3 x5 H=>qgu O 2 oZ iF (fun x3 H=>qfx O 2 oZ iF (fun x2 H=>.ok x2 H) (G L 0) x3 H) (G L 0) (G L 4) k15 x3 x5 H) (G L 0) (G L 3) (G L 4) (G L 5) H) (q6 (p5 (E:=fun L H=>qpu O 2 oZ iF (fun x3 x5 H=>qgu O 2 oZ iF (fun x3 H=>qfx O 2 oZ iF (fun x2 H=>.ok x2 H) (G L 0) x3 H) (G L 0) (G L 4) k15 x3 x5 H) (G L 3) (G L 5) H) q0) q0)) q0))) (fun _ _=>by kernel_rfl))) q0)) q0) q0) q0)))) q0))) (fun _ _=>by kernel_rfl))) q0))) q0) q0))
theorem zoq:(aM Tryz.prog 36).f O [x0] H=zEf O x0 H:=
 r7 Tryz.func36 (D:=fun L H=>zx9 O (G L 0) H)
 (p5 (q6 (q6 (q6 (p5 (E:=fun L H=>qgb O (G L 3) H) q0) (q6 (r8 (p5 (E:=fun L H=>zdz O (fun H=>qgb O (G L 3) H) (G L 3) (G L 10) (G L 11) (G L 12) H) (pT (D:=fun k6 L H=>qhs O (fun H=>qgb O (G L 3) H) (G L 3) (G L 10) (G L 11) k6 (G L 12) H) (fun k6=>p5 (q6 (q6 (p5 (E:=fun L H=>q1m O (fun bA H=>qhs O (fun H=>qgb O (G L 3) H) (G L 3) (G L 10) (G L 11) k6 bA H) (G L 3) (G L 10) (G L 12) H) (q6 (p5 (E:=fun L H=>qnf O (fun bA H=>qhs O (fun H=>qgb O (G L 3) H) (G L 3) (G L 10) (G L 11) k6 bA H) (G L 12) H) q0) (r8 (q6 (q6 (r8 (p5 (E:=fun L H=>q1q O (fun H=>qnf O (fun bA H=>qhs O (fun H=>qgb O (G L 3) H) (G L 3) (G L 10) (G L 11) k6 bA H) (G L 12) H) (G L 3) (G L 5) (G L 17) (G L 18) (G L 19) H) (pT (D:=fun k17 L H=>qj6 O (fun H=>qnf O (fun bA H=>qhs O (fun H=>qgb O (G L 3) H) (G L 3) (G L 10) (G L 11) k6 bA H) (G L 12) H) (G L 3) (G L 5) (G L 17) (G L 18) k17 (G L 19) H) (fun k17=>p5 (q6 (q6 (p5 (E:=fun L H=>q1n O (fun dY H=>qj6 O (fun H=>qnf O (fun bA H=>qhs O (fun H=>qgb O (G L 3) H) (G L 3) (G L 10) (G L 11) k6 bA H) (G L 12) H) (G L 3) (G L 5) (G L 17) (G L 18) k17 dY H) (G L 3) (G L 5) (G L 17) (G L 19) H) (q6 (p5 (E:=fun L H=>q1o O (fun dY H=>qj6 O (fun H=>qnf O (fun bA H=>qhs O (fun H=>qgb O (G L 3) H) (G L 3) (G L 10) (G L 11) k6 bA H) (G L 12) H) (G L 3) (G L 5) (G L 17) (G L 18) k17 dY H) (G L 19) H) q0) q0)) q0) q0))) (fun _ _=>by kernel_rfl))) q0) q0)))) q0) q0))) (fun _ _=>by kernel_rfl))) q0)) q0) q0))
theorem zpk:(aM Tryz.prog 149).f O [x0,x1,x2,x3] H=zCw O x0 x1 x2 x3 H:=
 r7 Tryz.func149 (D:=fun L H=>zyz O (G L 0) (G L 1) (G L 2) (G L 3) H)
 (p5 (q6 (q6 (r8 (pT (D:=fun k5 L H=>qrj O (fun H=>.ok (.aX []) H) (fun H=>.ok (.aX []) H) (G L 0) (G L 1) (G L 2) (G L 3) (G L 5) (G L 16) k5 (G L 17) H) (fun k5=>p5 (q6 (q6 (q6 (q0) (r8 (q6 (q6 (q6 (r8 (pT (D:=fun k14 L H=>qnn O (fun H=>.ok (.aX []) H) (fun H=>q6k O (fun dL H=>qrj O (fun H=>.ok (.aX []) H) (fun H=>.ok (.aX []) H) (G L 0) (G L 1) (G L 2) (G L 3) (G L 5) (G L 16) k5 dL H) (G L 17) H) (G L 0) (G L 1) (G L 5) (G L 6) (G L 54) k14 (G L 55) H) (fun k14=>p5 (q6 (q6 (q6 (q0) (r8 (q6 (q6 (pB (q6 (q6 q0 q0) q0) q0) q0) q0))) q0) q0)))) q0) (q6 (r8 (pT (D:=fun k39 L H=>qnm O (fun H=>q2h O (fun H=>.ok (.aX []) H) (fun dL H=>qrj O (fun H=>.ok (.aX []) H) (fun H=>.ok (.aX []) H) (G L 0) (G L 1) (G L 2) (G L 3) (G L 5) (G L 16) k5 dL H) (G L 0) (G L 1) (G L 5) (G L 6) (G L 17) H) (G L 3) (G L 5) (G L 6) (G L 23) (G L 24) k39 (G L 25) H) (fun k39=>p5 (q6 (q6 (q6 (q0) q0) q0) q0)))) q0)) q0))) q0) q0)))) q0) q0))
theorem zn4:(aM Tryz.prog 28).f O [x0,x1] H=zFj O x0 x1 H:=
 r7 Tryz.func28 (D:=fun L H=>zxn O (G L 0) (G L 1) H)
 (p5 (q6 (q6 (p5 (E:=fun L H=>qqz O H) q0) (q6 (r8 (p5 (E:=fun L H=>zc0 O (fun x4 H=>.ok x4 H) (fun H=>qqz O H) (G L 0) (G L 1) (G L 7) (G L 8) H) (pT (D:=fun k2 L H=>qqy O (fun x4 H=>.ok x4 H) (fun H=>qqz O H) (G L 0) (G L 1) (G L 7) k2 (G L 8) H) (fun k2=>p5 (q6 (q6 (p5 (E:=fun L H=>zcx O (fun x4 H=>.ok x4 H) (fun x8 H=>qqy O (fun x4 H=>.ok x4 H) (fun H=>qqz O H) (G L 0) (G L 1) (G L 7) k2 x8 H) (G L 0) (G L 1) (G L 8) H) (q6 (p5 (E:=fun L H=>zcy O (fun x8 H=>qqy O (fun x4 H=>.ok x4 H) (fun H=>qqz O H) (G L 0) (G L 1) (G L 7) k2 x8 H) (G L 8) H) q0) q0)) q0) q0))) (fun _ _=>by kernel_rfl))) q0)) q0))
theorem zou:(aM Tryz.prog 17).f O [x0,x1] H=zEa O x0 x1 H:=
 r7 Tryz.func17 (D:=fun L H=>zyd O (G L 0) (G L 1) H)
 (p5 (q6 (q6 (p5 (E:=fun L H=>q12 O (G L 1) (G L 2) (G L 4) (G L 5) H) (q6 (q6 (p5 (E:=fun L H=>qnh O (G L 4) (G L 5) H) q0) (q6 (r8 (p5 (E:=fun L H=>zd7 O (fun x4 x5 H=>qnh O x4 x5 H) (G L 8) (G L 18) (G L 19) (G L 4) (G L 5) (G L 20) H) (pT (D:=fun k7 L H=>qrc O (fun x4 x5 H=>qnh O x4 x5 H) (G L 8) (G L 18) (G L 19) k7 (G L 4) (G L 5) (G L 20) H) (fun k7=>p5 (q6 (q6 (p5 (E:=fun L H=>q13 O (fun x4 x5 x20 H=>qrc O (fun x4 x5 H=>qnh O x4 x5 H) (G L 8) (G L 18) (G L 19) k7 x4 x5 x20 H) (G L 4) (G L 5) (G L 8) (G L 18) (G L 20) H) (q6 (p5 (E:=fun L H=>qni O (fun x4 x5 x20 H=>qrc O (fun x4 x5 H=>qnh O x4 x5 H) (G L 8) (G L 18) (G L 19) k7 x4 x5 x20 H) (G L 4) (G L 5) (G L 20) H) q0) q0)) q0) q0))) (fun _ _=>by kernel_rfl))) q0)) q0)) q0) q0))
theorem zox:(aM Tryz.prog 7).f O [x0] H=zDw O x0 H:=
 r7 Tryz.func7 (D:=fun L H=>zyg O (G L 0) H)
 (p5 (q6 (q6 (q6 (q6 (p5 (E:=fun L H=>qh3 O (G L 2) (G L 4) (G L 5) H) q0) (q6 (r8 (p5 (E:=fun L H=>q19 O (fun x5 H=>qh3 O (G L 2) (G L 4) x5 H) (G L 1) (G L 4) (G L 5) (G L 6) H) (pT (D:=fun k14 L H=>qj7 O (fun x5 H=>qh3 O (G L 2) (G L 4) x5 H) (G L 1) (G L 4) k14 (G L 5) (G L 6) H) (fun k14=>p5 (q6 (p5 (E:=fun L H=>q17 O (fun x5 x6 H=>qj7 O (fun x5 H=>qh3 O (G L 2) (G L 4) x5 H) (G L 1) (G L 4) k14 x5 x6 H) (G L 1) (G L 4) (G L 5) (G L 6) H) (q6 (p5 (E:=fun L H=>qnk O (fun x5 x6 H=>qj7 O (fun x5 H=>qh3 O (G L 2) (G L 4) x5 H) (G L 1) (G L 4) k14 x5 x6 H) (G L 5) (G L 6) H) q0) q0)) q0))) (fun _ _=>by kernel_rfl))) q0)) q0) q0) q0))
theorem zod:(aM Tryz.prog 128).f O [x0] H=zEw O x0 H:=
 r7 Tryz.func128 (D:=fun L H=>zxw O (G L 0) H)
 (p5 (q6 (q6 (p5 (E:=fun L H=>qnc O H) q0) (q6 (r8 (p5 (E:=fun L H=>zdj O (fun x2 H=>.ok x2 H) (fun H=>qnc O H) (G L 6) (G L 7) (G L 8) H) (pT (D:=fun k2 L H=>qq5 O (fun x2 H=>.ok x2 H) (fun H=>qnc O H) (G L 6) (G L 7) k2 (G L 8) H) (fun k2=>p5 (q6 (q6 (p5 (E:=fun L H=>q1h O (fun x2 H=>.ok x2 H) (fun x8 H=>qq5 O (fun x2 H=>.ok x2 H) (fun H=>qnc O H) (G L 6) (G L 7) k2 x8 H) (G L 6) (G L 8) H) (q6 (p5 (E:=fun L H=>zdh O (fun x8 H=>qq5 O (fun x2 H=>.ok x2 H) (fun H=>qnc O H) (G L 6) (G L 7) k2 x8 H) (G L 8) H) q0) q0)) q0) q0))) (fun _ _=>by kernel_rfl))) q0)) q0))
theorem zqo:(aM Tryz.prog 84).f O [x0] H=zBj O x0 H:=
 r7 Tryz.func84 (D:=fun L H=>zzt O (G L 0) H)
 (p5 (q6 (q6 (q6 (q6 (q6 (q6 q0 (q6 (r8 (pT (D:=fun k7 L H=>qxq O (fun x2 H=>.ok x2 H) (fun H=>q6x O H) (G L 4) (G L 26) (G L 27) k7 (G L 5) (G L 28) H) (fun k7=>p5 (q6 (q6 (q6 q0 (r8 (q6 (q6 (r8 (pT (D:=fun k18 L H=>quj O (fun x2 H=>.ok x2 H) (fun x5 H=>q3c O (fun x5 x28 H=>qxq O (fun x2 H=>.ok x2 H) (fun H=>q6x O H) (G L 4) (G L 26) (G L 27) k7 x5 x28 H) x5 (G L 28) H) (G L 4) (G L 7) (G L 34) k18 (G L 5) (G L 35) H) (fun k18=>p5 q0))) q0) q0))) q0) q0)))) q0)) q0) q0) q0) q0) q0))
theorem zp1:(aM Tryz.prog 118).f O [x0,x1] H=zCf O x0 x1 H:=
 r7 Tryz.func118 (D:=fun L H=>zzc O (G L 0) (G L 1) H)
 (p5 (q6 (q6 (q6 (q6 q0 (q6 (r8 (pT (D:=fun k12 L H=>qnr O (fun H=>q6s O (G L 2) (G L 3) (G L 5) H) (G L 5) (G L 15) (G L 16) k12 (G L 17) H) (fun k12=>p5 (q6 (q6 (q6 q0 (r8 (q6 (q6 (r8 (pT (D:=fun k19 L H=>quc O (fun H=>q2p O (fun dL H=>qnr O (fun H=>q6s O (G L 2) (G L 3) (G L 5) H) (G L 5) (G L 15) (G L 16) k12 dL H) (G L 17) H) (G L 5) (G L 6) (G L 22) (G L 23) k19 (G L 24) H) (fun k19=>p5 q0))) q0) q0))) q0) q0)))) q0)) q0) q0) q0))
theorem zp5:(aM Tryz.prog 116).f O [x0] H=zCb O x0 H:=
 r7 Tryz.func116 (D:=fun L H=>zbw O 3 zY zB (G L 0) H)
 (p5 (q6 (q6 (q6 q0 (q6 (r8 (pT (D:=fun k1 L H=>qpt O 3 zY zB (fun x2 H=>.ok x2 H) (fun H=>qpv O 3 zY zB (G L 0) H) (G L 0) k1 (G L 3) H) (fun k1=>p5 (q6 (q6 q0 (r8 (q6 (pB (q6 (q6 q0 (q6 (r8 (pT (D:=fun k15 L H=>qgu O 3 zY zB (fun x3 H=>qfx O 3 zY zB (fun x2 H=>.ok x2 H) (G L 0) x3 H) (G L 0) (G L 4) k15 (G L 3) (G L 5) H) (fun k15=>p5 q0))) q0)) q0) q0) q0))) q0)))) q0)) q0) q0))
theorem zq9:(aM Tryz.prog 35).f O [x0] H=zAh O x0 H:=
 r7 Tryz.func35 (D:=fun L H=>z0a O (G L 0) H)
 (p5 (q6 (q6 (q6 q0 (q6 (r8 (pT (D:=fun k2 L H=>qxt O (fun x3 H=>zhx O x3 H) (G L 1) k2 (G L 3) (G L 4) H) (fun k2=>p5 (q6 (q6 q0 (r8 (q6 (r8 (pT (D:=fun k5 L H=>q7d O (fun x3 H=>zhu O (fun x3 x4 H=>qxt O (fun x3 H=>zhx O x3 H) (G L 1) k2 x3 x4 H) x3 (G L 4) H) (G L 1) (G L 4) k5 (G L 3) (G L 5) H) (fun k5=>p5 q0))) q0))) q0)))) q0)) q0) q0))
theorem zp2:(aM Tryz.prog 119).f O [x0] H=zCe O x0 H:=
 r7 Tryz.func119 (D:=fun L H=>zzd O (G L 0) H)
 (p5 (q6 (q6 (q6 (q6 q0 (q6 (r8 (pT (D:=fun k7 L H=>q6t O (fun H=>zfn O (G L 3) H) (G L 3) (G L 29) k7 (G L 30) H) (fun k7=>p5 q0))) q0)) (q6 (r8 (pT (D:=fun k21 L H=>qud O (fun H=>q2u O (G L 1) (G L 3) H) (G L 3) (G L 8) (G L 9) k21 (G L 10) H) (fun k21=>p5 q0))) q0)) q0) q0))
theorem zqz:(aM Tryz.prog 39).f O [x0,x1,x2] H=zAy O x0 x1 x2 H:=
 r7 Tryz.func39 (D:=fun L H=>zz1 O (G L 0) (G L 1) (G L 2) H)
 (p5 (q6 (q6 (q6 q0 (q6 (r8 (pT (D:=fun k7 L H=>qxr O (fun x7 H=>fJ (jK (qbv (rV (dD 6 H (G L 6))) (qbv (some x7) (some [])))) H) (fun H=>q60 O (G L 6) H) (G L 2) (G L 3) (G L 6) (G L 8) k7 (G L 9) H) (fun k7=>p5 q0))) q0)) q0) q0))
theorem zqx:(aM Tryz.prog 81).f O [x0,x1,x2] H=zAz O x0 x1 x2 H:=
 r7 Tryz.func81 (D:=fun L H=>zqy O (G L 0) (G L 1) (G L 2) H)
 (p5 (q6 (q6 (q6 (q6 (q6 q0 (q6 (r8 (pT (D:=fun k15 L H=>qup O (fun x0 x8 H=>qur O x0 (G L 7) x8 H) (G L 2) (G L 4) k15 (G L 0) (G L 8) (G L 9) H) (fun k15=>p5 q0))) q0)) q0) q0) q0) q0))
theorem zo0:(aM Tryz.prog 227).f O [x0,x1] H=zDq O x0 x1 H:=
 r7 Tryz.func227 (D:=fun L H=>zyi O (G L 0) (G L 1) H)
 (p5 (q6 (r8 (pT (D:=fun k2 L H=>q6f O (fun H=>.ok (.aX []) H) (fun H=>.ok (.aX []) H) (G L 0) (G L 5) (G L 6) k2 (G L 7) H) (fun k2=>p5 q0))) q0))
theorem zqw:(aM Tryz.prog 92).f O [x0] H=zBc O x0 H:=
 r7 Tryz.func92 (D:=fun L H=>zz0 O (G L 0) H)
 (p5 (q6 (q6 (q6 q0 (q6 (r8 (pT (D:=fun k2 L H=>q6y O (fun x3 H=>zv5 O x3 H) (G L 6) (G L 7) k2 (G L 3) (G L 8) H) (fun k2=>p5 q0))) q0)) q0) q0))
theorem zoi:(aM Tryz.prog 83).f O [x0,x1] H=zEp O x0 x1 H:=
 r7 Tryz.func83 (D:=fun L H=>zx1 O (G L 0) (G L 1) H)
 (p5 (q6 (q6 (p5 (E:=fun L H=>zdp O (G L 2) (G L 3) H) q0) q0) q0))
theorem zof:(aM Tryz.prog 105).f O [x0,x1] H=zEu O x0 x1 H:=
 r7 Tryz.func105 (D:=fun L H=>zxy O (G L 0) (G L 1) H)
 (p5 (q6 (q6 (p5 (E:=fun L H=>zdn O (G L 2) (G L 3) H) q0) q0) q0))
theorem zok:(aM Tryz.prog 64).f O [x0] H=zEn O x0 H:=
 r7 Tryz.func64 (D:=fun L H=>zx3 O (G L 0) H)
 (p5 (q6 (q6 (p5 (E:=fun L H=>zdr O (G L 1) H) q0) q0) q0))
theorem zoo:(aM Tryz.prog 38).f O [x0] H=zEh O x0 H:=
 r7 Tryz.func38 (D:=fun L H=>zx7 O (G L 0) H)
 (p5 q0)
theorem zpw:(aM Tryz.prog 136).f O [x0,x1,x2,x3] H=zCl O x0 x1 x2 x3 H:=
 r7 Tryz.func136 (D:=fun L H=>zy7 O (G L 0) (G L 1) (G L 2) (G L 3) H)
 (p5 q0)
theorem zpv:(aM Tryz.prog 138).f O [x0,x1,x2] H=zCm O x0 x1 x2 H:=
 r7 Tryz.func138 (D:=fun L H=>zy6 O (G L 0) (G L 1) (G L 2) H)
 (p5 q0)
theorem zn5:(aM Tryz.prog 29).f O [x0,x1] H=zFi O x0 x1 H:=
 r7 Tryz.func29 (D:=fun L H=>zxo O (G L 0) (G L 1) H)
 (p5 q0)
theorem zp8:(aM Tryz.prog 111).f O [x0,x1,x2] H=zBx O x0 x1 x2 H:=
 r7 Tryz.func111 (D:=fun L H=>zp9 O (G L 0) (G L 1) (G L 2) H)
 (p5 q0)
theorem zoh:(aM Tryz.prog 97).f O [x0] H=zEs O x0 H:=
 r7 Tryz.func97 (D:=fun L H=>zx0 O (G L 0) H)
 (p5 q0)
theorem zqp:(aM Tryz.prog 80).f O [x0,x1,x2] H=zBi O x0 x1 x2 H:=
 r7 Tryz.func80 (D:=fun L H=>zzu O (G L 0) (G L 1) (G L 2) H)
 (p5 q0)
theorem zo9:(aM Tryz.prog 167).f O [x0,x1] H=zDg O x0 x1 H:=
 r7 Tryz.func167 (D:=fun L H=>zyq O (G L 0) (G L 1) H)
 (p5 q0)
theorem zpl:(aM Tryz.prog 148).f O [x0,x1] H=zCv O x0 x1 H:=
 r7 Tryz.func148 (D:=fun L H=>z4e O (G L 0) (G L 1) H)
 (p5 q0)
theorem zqk:(aM Tryz.prog 88).f O [x0] H=zBn O x0 H:=
 r7 Tryz.func88 (D:=fun L H=>z4m O (G L 0) H)
 (p5 q0)
theorem zpo:(aM Tryz.prog 145).f O [x0] H=zCs O x0 H:=
 r7 Tryz.func145 (D:=fun L H=>zy1 O (G L 0) H)
 (p5 q0)
theorem zqq:(aM Tryz.prog 79).f O [x0] H=zBh O x0 H:=
 r7 Tryz.func79 (D:=fun L H=>zzv O (G L 0) H)
 (p5 q0)
theorem zqa:(aM Tryz.prog 110).f O [x0] H=zBw O x0 H:=
 r7 Tryz.func110 (D:=fun L H=>zzi O (G L 0) H)
 (p5 q0)
def zwa(O:Ev.Call)(k21:Nat)(k32:Nat)(L:TT AV (iO (Tryz.f56.ntmps+1))):=fun H=>q3s O (fun x70 H=>qn0 O (fun H=>qu0 O (fun x63 H=>qkh O (fun H=>qn1 O (G L 2) (G L 10) H) (G L 1) (G L 5) (G L 10) (G L 61) (G L 62) k21 x63 H) (G L 63) H) (G L 1) (G L 5) (G L 10) (G L 12) (G L 68) (G L 69) k32 x70 H) (G L 70) H
def zv9(O:Ev.Call)(k21:Nat)(k32:Nat)(k46:Nat)(L:TT AV (iO (Tryz.f56.ntmps+1))):=fun H=>qh5 O (fun x82 H=>qkg O (zwa O k21 k32 L) (G L 1) (G L 5) (G L 10) (G L 12) (G L 14) (G L 80) (G L 81) k46 x82 H) (G L 82) H
theorem zq1:(aM Tryz.prog 56).f O [x0] H=zAt O x0 H:=
 r7 Tryz.func56 (D:=fun L H=>zz3 O (G L 0) H)
 (p5 (q6 (q6 (q6 (q6 (q6 (q6 q0 (q6 (r8 (pT (D:=fun k21 L H=>qkh O (fun H=>qn1 O (G L 2) (G L 10) H) (G L 1) (G L 5) (G L 10) (G L 61) (G L 62) k21 (G L 63) H) (fun k21=>p5 (q6 (q6 (q6 q0 (r8 (q6 (q6 (r8 (pT (D:=fun k32 L H=>qn0 O (fun H=>qu0 O (fun x63 H=>qkh O (fun H=>qn1 O (G L 2) (G L 10) H) (G L 1) (G L 5) (G L 10) (G L 61) (G L 62) k21 x63 H) (G L 63) H) (G L 1) (G L 5) (G L 10) (G L 12) (G L 68) (G L 69) k32 (G L 70) H) (fun k32=>p5 (q6 (q6 (q6 q0 (r8 (q6 (q6 (q6 (r8 (pT (D:=fun k46 L H=>qkg O (zwa O k21 k32 L) (G L 1) (G L 5) (G L 10) (G L 12) (G L 14) (G L 80) (G L 81) k46 (G L 82) H) (fun k46=>p5 (q6 (q6 (q6 q0 (r8 (q6 (q6 (q6 (r8 (q6 (pB (q6 (r8 (pT (D:=fun k60 L H=>quy O (zv9 O k21 k32 k46 L) (G L 19) (G L 92) (G L 93) k60 (G L 94) H) (fun k60=>p5 q0))) q0) (q6 (pB q0 (q6 (pB (q6 (q6 (r8 (pT (D:=fun k95 L H=>qux O (zv9 O k21 k32 k46 L) (G L 18) (G L 19) (G L 129) (G L 130) k95 (G L 131) H) (fun k95=>p5 q0))) q0) q0) q0) q0)) q0)) q0)) q0) q0) q0))) q0) q0)))) q0) q0) q0))) q0) q0)))) q0) q0))) q0) q0)))) q0)) q0) (q6 (r8 (pT (D:=fun aFP L H=>qi6 O (fun H=>qmb O (G L 1) (G L 2) (G L 5) H) (G L 5) (G L 34) (G L 35) aFP (G L 36) H) (fun aFP=>p5 (q6 (q6 (q6 q0 (r8 (q6 (q6 (r8 (pT (D:=fun aMv L H=>qma O (fun H=>qu1 O (fun qY H=>qi6 O (fun H=>qmb O (G L 1) (G L 2) (G L 5) H) (G L 5) (G L 34) (G L 35) aFP qY H) (G L 36) H) (G L 5) (G L 7) (G L 41) (G L 42) aMv (G L 43) H) (fun aMv=>p5 q0))) q0) q0))) q0) q0)))) q0)) q0) q0) q0))
theorem zoa:(aM Tryz.prog 8).f O [x0,x1] H=zFa O x0 x1 H:=
 r7 Tryz.func8 (D:=fun L H=>zxt O (G L 0) (G L 1) H)
 (p5 (q6 (q6 (p5 (E:=fun L H=>zdc O (G L 1) (G L 2) H) (q6 (q6 (p5 (E:=fun L H=>qf4 O (G L 7) H) q0) (q6 (r8 (p5 (E:=fun L H=>zde O (fun x7 H=>qf4 O x7 H) (G L 2) (G L 19) (G L 20) (G L 7) (G L 21) H) (pT (D:=fun k5 L H=>qf3 O (fun x7 H=>qf4 O x7 H) (G L 2) (G L 19) (G L 20) k5 (G L 7) (G L 21) H) (fun k5=>p5 (q6 (q6 (p5 (E:=fun L H=>q09 O (fun x7 mD H=>qf3 O (fun x7 H=>qf4 O x7 H) (G L 2) (G L 19) (G L 20) k5 x7 mD H) (G L 2) (G L 7) (G L 19) (G L 21) H) (q6 (p5 (E:=fun L H=>qi5 O (fun x7 mD H=>qf3 O (fun x7 H=>qf4 O x7 H) (G L 2) (G L 19) (G L 20) k5 x7 mD H) (G L 7) (G L 21) H) q0) (r8 (q6 (q6 (q6 (p5 (E:=fun L H=>q1a O (fun x7 mD H=>qf3 O (fun x7 H=>qf4 O x7 H) (G L 2) (G L 19) (G L 20) k5 x7 mD H) (G L 2) (G L 7) (G L 9) (G L 10) (G L 21) H) (q6 (r8 (p5 (E:=fun L H=>q1e O (fun x7 H=>qi5 O (fun x7 mD H=>qf3 O (fun x7 H=>qf4 O x7 H) (G L 2) (G L 19) (G L 20) k5 x7 mD H) x7 (G L 21) H) (G L 9) (G L 36) (G L 37) (G L 7) (G L 38) H) (pT (D:=fun k22 L H=>qj5 O (fun x7 H=>qi5 O (fun x7 mD H=>qf3 O (fun x7 H=>qf4 O x7 H) (G L 2) (G L 19) (G L 20) k5 x7 mD H) x7 (G L 21) H) (G L 9) (G L 36) (G L 37) k22 (G L 7) (G L 38) H) (fun k22=>p5 (q6 (q6 (p5 (E:=fun L H=>q1b O (fun x7 x38 H=>qj5 O (fun x7 H=>qi5 O (fun x7 mD H=>qf3 O (fun x7 H=>qf4 O x7 H) (G L 2) (G L 19) (G L 20) k5 x7 mD H) x7 (G L 21) H) (G L 9) (G L 36) (G L 37) k22 x7 x38 H) (G L 7) (G L 9) (G L 36) (G L 38) H) (q6 (p5 (E:=fun L H=>q1c O (fun x7 x38 H=>qj5 O (fun x7 H=>qi5 O (fun x7 mD H=>qf3 O (fun x7 H=>qf4 O x7 H) (G L 2) (G L 19) (G L 20) k5 x7 mD H) x7 (G L 21) H) (G L 9) (G L 36) (G L 37) k22 x7 x38 H) (G L 7) (G L 38) H) q0) q0)) q0) q0))) (fun _ _=>by kernel_rfl))) q0)) q0) q0) q0)))) q0) q0))) (fun _ _=>by kernel_rfl))) q0)) q0)) q0) q0))
def zhc(O:Ev.Call)(k11:Nat)(L:TT AV (iO (Tryz.f57.ntmps+1))):=fun uD H=>qke O (fun H=>q61 O (G L 8) H) (G L 1) (G L 4) (G L 8) (G L 39) (G L 40) k11 uD H
theorem zq0:(aM Tryz.prog 57).f O [x0] H=zAu O x0 H:=
 r7 Tryz.func57 (D:=fun L H=>zz2 O (G L 0) H)
 (p5 (q6 (q6 (q6 (pS qrm (fun x L H=>x O (G L 1) (G L 4) H) (p5 (q6 (pS qrn (fun x L H=>x O (G L 1) (G L 4) H) (p5 (q6 (q6 (pS qkf (fun x L H=>x O (G L 1) (G L 4) (G L 8) H) (p5 (q6 q0 (q6 (r8 (pT (D:=fun k11 L H=>qke O (fun H=>q61 O (G L 8) H) (G L 1) (G L 4) (G L 8) (G L 39) (G L 40) k11 (G L 41) H) (fun k11=>p5 (q6 (q6 (q6 q0 (r8 (q6 (q6 (q6 (q6 (r8 (pT (D:=fun k18 L H=>qus O (fun H=>q3n O (zhc O k11 L) (G L 41) H) (G L 8) (G L 11) (G L 83) (G L 84) k18 (G L 85) H) (fun k18=>p5 q0))) q0) (q6 (r8 (pT (D:=fun k32 L H=>qkd O (fun dH H=>quw O (zhc O k11 L) (G L 8) (G L 10) dH (G L 41) H) (G L 4) (G L 8) (G L 9) (G L 47) (G L 48) k32 (G L 11) (G L 49) H) (fun k32=>p5 (q6 (q6 (pS qro (fun x L H=>x O (fun dH x49 H=>qkd O (fun dH H=>quw O (zhc O k11 L) (G L 8) (G L 10) dH (G L 41) H) (G L 4) (G L 8) (G L 9) (G L 47) (G L 48) k32 dH x49 H) (G L 4) (G L 8) (G L 9) (G L 11) (G L 47) (G L 49) H) (p5 q0)) q0) q0)))) q0)) q0) q0))) q0) q0)))) q0)))) q0) q0))) q0))) q0) q0) q0))
theorem zoe:(aM Tryz.prog 106).f O [x0,x1] H=zEv O x0 x1 H:=
 r7 Tryz.func106 (D:=fun L H=>zxx O (G L 0) (G L 1) H)
 (p5 (q6 (q6 (p5 (E:=fun L H=>qle O (G L 0) (G L 1) H) (q6 (p5 (E:=fun L H=>zdk O (G L 0) (G L 1) H) (q6 (p5 (E:=fun L H=>zuw O H) q0) q0)) q0)) (q6 (r8 (p5 (E:=fun L H=>zdm O (fun x4 H=>.ok x4 H) (fun H=>qle O (G L 0) (G L 1) H) (G L 0) (G L 1) (G L 5) H) (pT (D:=fun k9 L H=>qnd O (fun x4 H=>.ok x4 H) (fun H=>qle O (G L 0) (G L 1) H) (G L 0) (G L 1) k9 (G L 5) H) (fun k9=>p5 (q6 (p5 (E:=fun L H=>q1i O (fun x4 H=>.ok x4 H) (fun x5 H=>qnd O (fun x4 H=>.ok x4 H) (fun H=>qle O (G L 0) (G L 1) H) (G L 0) (G L 1) k9 x5 H) (G L 0) (G L 1) (G L 5) H) (q6 (p5 (E:=fun L H=>q1k O (fun x5 H=>qnd O (fun x4 H=>.ok x4 H) (fun H=>qle O (G L 0) (G L 1) H) (G L 0) (G L 1) k9 x5 H) (G L 5) H) q0) (r8 (q6 (p5 (E:=fun L H=>q1j O (fun x4 H=>.ok x4 H) (fun x5 H=>qnd O (fun x4 H=>.ok x4 H) (fun H=>qle O (G L 0) (G L 1) H) (G L 0) (G L 1) k9 x5 H) (G L 0) (G L 1) (G L 5) H) q0) q0)))) q0))) (fun _ _=>by kernel_rfl))) q0)) q0))
def zv1(O:Ev.Call)(k16:Nat)(L:TT AV (iO (Tryz.f78.ntmps+1))):=fun x9 H=>q3f O (fun x9 x10 H=>qnx O (fun x9 H=>qul O (G L 2) (G L 3) (G L 8) x9 H) (G L 1) (G L 3) (G L 4) k16 x9 x10 H) x9 (G L 10) H
theorem zqr:(aM Tryz.prog 78).f O [x0,x1,x2,x3] H=zBg O x0 x1 x2 x3 H:=
 r7 Tryz.func78 (D:=fun L H=>zzw O (G L 0) (G L 1) (G L 2) (G L 3) H)
 (p5 (q6 (q6 (q6 q0 (q6 (r8 (pT (D:=fun k16 L H=>qnx O (fun x9 H=>qul O (G L 2) (G L 3) (G L 8) x9 H) (G L 1) (G L 3) (G L 4) k16 (G L 9) (G L 10) H) (fun k16=>p5 (q6 (q6 q0 (r8 (q6 (q6 (r8 (pT (D:=fun k21 L H=>qnw O (zv1 O k16 L) (G L 1) (G L 3) (G L 4) (G L 10) (G L 11) k21 (G L 9) (G L 12) H) (fun k21=>p5 (q6 (q6 q0 (r8 (q6 (r8 (pT (D:=fun k24 L H=>quk O (fun x9 H=>q3e O (fun x9 bA H=>qnw O (zv1 O k16 L) (G L 1) (G L 3) (G L 4) (G L 10) (G L 11) k21 x9 bA H) x9 (G L 12) H) (G L 1) (G L 3) (G L 4) (G L 10) (G L 11) (G L 12) k24 (G L 9) (G L 13) H) (fun k24=>p5 q0))) q0))) q0)))) q0) q0))) q0)))) q0)) q0) q0))
theorem zn6:(aM Tryz.prog 14).f O [x0,x1] H=zFh O x0 x1 H:=
 r7 Tryz.func14 (D:=fun L H=>zxp O (G L 0) (G L 1) H)
 (p5 (q6 (q6 (p5 (E:=fun L H=>q05 O (G L 0) (G L 1) H) (q6 (p5 (E:=fun L H=>qq1 O H) q0) (q6 (r8 (p5 (E:=fun L H=>zc4 O (fun x4 H=>.ok x4 H) (fun H=>qq1 O H) (G L 0) (G L 1) (G L 5) H) (pT (D:=fun k1 L H=>qq0 O (fun x4 H=>.ok x4 H) (fun H=>qq1 O H) (G L 0) (G L 1) k1 (G L 5) H) (fun k1=>p5 (q6 (p5 (E:=fun L H=>zc1 O (fun x4 H=>.ok x4 H) (fun x5 H=>qq0 O (fun x4 H=>.ok x4 H) (fun H=>qq1 O H) (G L 0) (G L 1) k1 x5 H) (G L 0) (G L 1) (G L 5) H) (q6 (p5 (E:=fun L H=>zc2 O (fun x5 H=>qq0 O (fun x4 H=>.ok x4 H) (fun H=>qq1 O H) (G L 0) (G L 1) k1 x5 H) (G L 5) H) q0) q0)) q0))) (fun _ _=>by kernel_rfl))) q0))) q0) q0))
theorem zot:(aM Tryz.prog 18).f O [x0,x1] H=zEb O x0 x1 H:=
 r7 Tryz.func18 (D:=fun L H=>zyc O (G L 0) (G L 1) H)
 (p5 (q6 (q6 (p5 (E:=fun L H=>q11 O (G L 0) (G L 1) H) (q6 (p5 (E:=fun L H=>qrb O H) q0) (q6 (r8 (p5 (E:=fun L H=>zd5 O (fun x4 H=>.ok x4 H) (fun H=>qrb O H) (G L 0) (G L 1) (G L 5) H) (pT (D:=fun k1 L H=>qra O (fun x4 H=>.ok x4 H) (fun H=>qrb O H) (G L 0) (G L 1) k1 (G L 5) H) (fun k1=>p5 (q6 (p5 (E:=fun L H=>zd2 O (fun x4 H=>.ok x4 H) (fun x5 H=>qra O (fun x4 H=>.ok x4 H) (fun H=>qrb O H) (G L 0) (G L 1) k1 x5 H) (G L 0) (G L 1) (G L 5) H) (q6 (p5 (E:=fun L H=>zd3 O (fun x5 H=>qra O (fun x4 H=>.ok x4 H) (fun H=>qrb O H) (G L 0) (G L 1) k1 x5 H) (G L 5) H) q0) q0)) q0))) (fun _ _=>by kernel_rfl))) q0))) q0) q0))
theorem zn2:(aM Tryz.prog 32).f O [x0,x1] H=zFl O x0 x1 H:=
 r7 Tryz.func32 (D:=fun L H=>zxl O (G L 0) (G L 1) H)
 (p5 (q6 (r8 (p5 (E:=fun L H=>zcw O (fun H=>.ok (.aX []) H) (fun H=>.ok (.aX []) H) (G L 0) (G L 5) (G L 6) (G L 7) H) (pT (D:=fun k2 L H=>qqx O (fun H=>.ok (.aX []) H) (fun H=>.ok (.aX []) H) (G L 0) (G L 5) (G L 6) k2 (G L 7) H) (fun k2=>p5 (q6 (q6 (p5 (E:=fun L H=>q04 O (fun H=>.ok (.aX []) H) (fun x7 H=>qqx O (fun H=>.ok (.aX []) H) (fun H=>.ok (.aX []) H) (G L 0) (G L 5) (G L 6) k2 x7 H) (G L 0) (G L 5) (G L 7) H) (q6 (p5 (E:=fun L H=>zcu O (fun x7 H=>qqx O (fun H=>.ok (.aX []) H) (fun H=>.ok (.aX []) H) (G L 0) (G L 5) (G L 6) k2 x7 H) (G L 7) H) q0) q0)) q0) q0))) (fun _ _=>by kernel_rfl))) q0))
theorem zn8:(aM Tryz.prog 11).f O [x0] H=zFc O x0 H:=
 r7 Tryz.func11 (D:=fun L H=>zxr O (G L 0) H)
 (p5 (q6 (q6 (q6 (p5 (E:=fun L H=>qq4 O (G L 3) H) q0) (q6 (r8 (p5 (E:=fun L H=>zdb O (fun x3 H=>qq4 O x3 H) (G L 0) (G L 3) (G L 4) H) (pT (D:=fun k1 L H=>qq3 O (fun x3 H=>qq4 O x3 H) (G L 0) k1 (G L 3) (G L 4) H) (fun k1=>p5 (q6 (p5 (E:=fun L H=>q08 O (fun x3 x4 H=>qq3 O (fun x3 H=>qq4 O x3 H) (G L 0) k1 x3 x4 H) (G L 0) (G L 3) (G L 4) H) (q6 (p5 (E:=fun L H=>zc9 O (fun x3 x4 H=>qq3 O (fun x3 H=>qq4 O x3 H) (G L 0) k1 x3 x4 H) (G L 3) (G L 4) H) q0) q0)) q0))) (fun _ _=>by kernel_rfl))) q0)) q0) q0))
theorem zqc:(aM Tryz.prog 107).f O [x0] H=zBu O x0 H:=
 r7 Tryz.func107 (D:=fun L H=>zzk O (G L 0) H)
 (p5 (q6 (q6 (q6 q0 (q6 (r8 (pT (D:=fun k5 L H=>qxp O (fun x2 H=>.ok x2 H) (fun H=>zf7 O H) (G L 13) (G L 14) k5 (G L 15) H) (fun k5=>p5 (q6 (q6 (q6 q0 (r8 (q6 (q6 (q6 (r8 (pT (D:=fun k16 L H=>quf O (fun x2 H=>.ok x2 H) (fun H=>zf1 O (fun bQ H=>qxp O (fun x2 H=>.ok x2 H) (fun H=>zf7 O H) (G L 13) (G L 14) k5 bQ H) (G L 15) H) (G L 30) (G L 31) k16 (G L 32) H) (fun k16=>p5 q0))) q0) q0) q0))) q0) q0)))) q0)) q0) q0))
theorem zq3:(aM Tryz.prog 51).f O [x0,x1] H=zAr O x0 x1 H:=
 r7 Tryz.func51 (D:=fun L H=>zz6 O (G L 0) (G L 1) H)
 (p5 (q6 (q6 (q6 (q6 q0 (q6 (pB (q6 (q6 q0 (q6 (r8 (pT (D:=fun k19 L H=>qu5 O (fun x7 H=>q30 O (G L 1) (G L 2) (G L 5) x7 H) (G L 1) (G L 2) k19 (G L 7) (G L 8) H) (fun k19=>p5 q0))) q0)) q0) q0) q0)) (q6 (r8 (pT (D:=fun k36 L H=>qu4 O (fun x5 H=>qu7 O (G L 1) (G L 2) x5 H) (G L 1) (G L 2) k36 (G L 5) (G L 6) H) (fun k36=>p5 q0))) q0)) q0) q0))
theorem zos:(aM Tryz.prog 25).f O [x0,x1] H=zEc O x0 x1 H:=
 r7 Tryz.func25 (D:=fun L H=>zyb O (G L 0) (G L 1) H)
 (p5 (q6 (q6 (q6 (p5 (E:=fun L H=>q10 O (G L 2) (G L 3) (G L 4) (G L 6) H) (p5 (E:=fun L H=>ql7 O (G L 2) (G L 3) (G L 4) (G L 6) H) (q6 (q6 (q6 (p5 (E:=fun L H=>qt0 O (G L 3) (G L 4) (G L 7) (G L 8) H) (p5 (E:=fun L H=>ql8 O (G L 3) (G L 4) (G L 7) (G L 8) H) q0) (fun L H=>by rw[qq9])) q0) q0) q0)) (fun L H=>by rw[qq8])) q0) q0) q0))
theorem zp7:(aM Tryz.prog 112).f O [x0,x1,x2,x3] H=zBy O x0 x1 x2 x3 H:=
 r7 Tryz.func112 (D:=fun L H=>zzh O (G L 0) (G L 1) (G L 2) (G L 3) H)
 (p5 (q6 (q6 (q6 q0 (q6 (q6 (pB (q6 (r8 (pT (D:=fun k8 L H=>qxo O (fun x9 H=>q6v O x9 H) (G L 0) (G L 3) (G L 22) (G L 23) k8 (G L 9) (G L 24) H) (fun k8=>p5 q0))) q0) q0) q0) q0)) q0) q0))
theorem zqh:(aM Tryz.prog 90).f O [x0] H=zBp O x0 H:=
 r7 Tryz.func90 (D:=fun L H=>zzo O (G L 0) H)
 (p5 (q6 (q6 (q6 (pS qrl (fun x L H=>x O (G L 1) (G L 4) H) (p5 (q6 (q6 q0 (q6 (r8 (pT (D:=fun k14 L H=>quh O (fun x6 H=>zgk O x6 H) (G L 4) (G L 18) (G L 19) k14 (G L 6) (G L 20) H) (fun k14=>p5 q0))) q0)) q0))) q0) q0) q0))
theorem zpb:(aM Tryz.prog 182).f O [x0,x1] H=zDe O x0 x1 H:=
 r7 Tryz.func182 (D:=fun L H=>zpc O (G L 0) (G L 1) H)
 (p5 (q6 (q6 (q6 (q6 q0 (q6 (r8 (pT (D:=fun k27 L H=>qt1 O (fun H=>q2a O (G L 0) (G L 4) (G L 5) H) (G L 0) (G L 35) (G L 36) k27 (G L 37) H) (fun k27=>p5 q0))) q0)) q0) q0) q0))
theorem zop:(aM Tryz.prog 37).f O [x0,x1] H=zEg O x0 x1 H:=
 r7 Tryz.func37 (D:=fun L H=>zx8 O (G L 0) (G L 1) H)
 (p5 (q6 (q6 (p5 (E:=fun L H=>q1l O (G L 0) (G L 3) H) (q6 (q6 (p5 (E:=fun L H=>zdx O H) q0) q0) q0)) q0) q0))
theorem zp3:(aM Tryz.prog 117).f O [x0] H=zCd O x0 H:=
 r7 Tryz.func117 (D:=fun L H=>zze O (G L 0) H)
 (p5 (q6 (q6 (q6 q0 (q6 (r8 (pT (D:=fun k5 L H=>q6u O (fun x2 H=>.ok x2 H) (fun H=>zvt O H) (G L 1) (G L 14) (G L 15) k5 (G L 16) H) (fun k5=>p5 q0))) q0)) q0) q0))
theorem zqe:(aM Tryz.prog 66).f O [x0,x1] H=zBs O x0 x1 H:=
 r7 Tryz.func66 (D:=fun L H=>zzl O (G L 0) (G L 1) H)
 (p5 (q6 (q6 q0 (q6 (r8 (pT (D:=fun k2 L H=>q6w O (fun x4 H=>.ok x4 H) (fun H=>zgb O H) (G L 1) (G L 2) k2 (G L 5) H) (fun k2=>p5 q0))) q0)) q0))
theorem zow:(aM Tryz.prog 19).f O [x0,x1] H=zDy O x0 x1 H:=
 r7 Tryz.func19 (D:=fun L H=>zyf O (G L 0) (G L 1) H)
 (p5 (q6 (q6 (p5 (E:=fun L H=>zeb O (G L 2) (G L 3) H) q0) q0) q0))
theorem zo8:(aM Tryz.prog 166).f O [x0,x1] H=zDh O x0 x1 H:=
 r7 Tryz.func166 (D:=fun L H=>zyp O (G L 0) (G L 1) H)
 (p5 q0)
theorem zn3:(aM Tryz.prog 30).f O [x0] H=zFk O x0 H:=
 r7 Tryz.func30 (D:=fun L H=>zxm O (G L 0) H)
 (p5 q0)
theorem zpy:(aM Tryz.prog 133).f O [x0,x1,x2,x3] H=zCj O x0 x1 x2 x3 H:=
 r7 Tryz.func133 (D:=fun L H=>zy9 O (G L 0) (G L 1) (G L 2) (G L 3) H)
 (p5 q0)
theorem zp4:(aM Tryz.prog 115).f O [x0] H=zCc O x0 H:=
 r7 Tryz.func115 (D:=fun L H=>zzf O (G L 0) H)
 (p5 q0)
theorem zpx:(aM Tryz.prog 134).f O [x0,x1] H=zCk O x0 x1 H:=
 r7 Tryz.func134 (D:=fun L H=>zy8 O (G L 0) (G L 1) H)
 (p5 q0)
theorem zpq:(aM Tryz.prog 143).f O [x0] H=zCq O x0 H:=
 r7 Tryz.func143 (D:=fun L H=>zy3 O (G L 0) H)
 (p5 q0)
theorem zn1:(aM Tryz.prog 31).f O [x0] H=zFm O x0 H:=
 r7 Tryz.func31 (D:=fun L H=>z4b O (G L 0) H)
 (p5 q0)
theorem zon:(aM Tryz.prog 53).f O [x0] H=zEi O x0 H:=
 r7 Tryz.func53 (D:=fun L H=>zx6 O (G L 0) H)
 (p5 q0)
theorem zqd:(aM Tryz.prog 104).f O [x0,x1,x2] H=zBt O x0 x1 x2 H:=
 r7 Tryz.func104 (D:=fun L H=>z4k O (G L 0) (G L 1) (G L 2) H)
 (p5 q0)
theorem zoz:(aM Tryz.prog 226).f O [x0] H=zDr O x0 H:=
 r7 Tryz.func226 (D:=fun L H=>z4c O (G L 0) H)
 (p5 q0)
theorem zpe:(aM Tryz.prog 171).f O [x0] H=zDc O x0 H:=
 r7 Tryz.func171 (D:=fun L H=>zyt O (G L 0) H)
 (p5 q0)
theorem zra:(aM Tryz.prog 27).f O [x0] H=zAe O x0 H:=
 r7 Tryz.func27 (D:=fun L H=>z0b O (G L 0) H)
 (p5 q0)
theorem zq7:(aM Tryz.prog 48).f O [x0] H=zAo O x0 H:=
 r7 Tryz.func48 (D:=fun L H=>zz8 O (G L 0) H)
 (p5 q0)
theorem zqt:(aM Tryz.prog 76).f O [x0] H=zBe O x0 H:=
 r7 Tryz.func76 (D:=fun L H=>zzz O (G L 0) H)
 (p5 q0)
end Go.Di
end
noncomputable section
namespace Go.Di
open Go.Ev Go.Proofs
set_option maxRecDepth 100000
theorem p7{P:Program}{d n:Nat}{O:Ev.Call}{K:Kt d}{f:Operand}{ps:Array Tmp}{sa bd:Code}(hn:(kQ sa&&kQ bd)=true):Lk P d n O (.rangeFunc f ps sa bd) K (fun L H=>fin (endLoop H.nx (qgw O ((aG d n f).f L) [.yield H.nx] (aO H (.loop true none d n L ps.toList sa bd))) L) K):=fun L H=>by
 have e:den P d n (.rangeFunc f ps sa bd)=⟨fun O L H=>endLoop H.nx (qgw O ((aG d n f).f L) [.yield H.nx] (aO H (.loop true none d n L ps.toList sa bd))) L⟩:=by simp only[den,hn]
 rw[e]
def qks(n:Nat):Code->LP
 | .seq a b=>match qks n a with
  |⟨0,_,_,_⟩=>qks n b
  |p=>p
 | .block _ b=>qks n b
 | .rangeFunc _ ps sa bd=>⟨n,ps.toList,sa,bd⟩
 |_=>⟨0,[],.skip,.skip⟩
def LAc:LP:=qks 13 (codeOf Tryz.f231)
def LOc:LP:=qks 53 (codeOf Tryz.f89)
theorem qqi(O:Ev.Call)(x0 x1:AV)(H:Hp):(aM Tryz.prog 231).f O [x0,x1] H=jO LAc O x0 x1 H:=
 r7 Tryz.func231 (D:=fun L H=>qin LAc O L (G L 0) (G L 1) H)
 (p5 (q6 (q6 (p5 (E:=fun L H=>qgz O (G L 2) H) q0) (q6 (r8 (p5 (E:=fun L H=>qim LAc O L (G L 6) H) (p7 (by kernel_rfl)))) q0)) q0))
theorem zqj(O:Ev.Call)(x0:AV)(H:Hp):(aM Tryz.prog 89).f O [x0] H=zBo LOc O x0 H:=
 r7 Tryz.func89 (D:=fun L H=>zzp LOc O L (G L 0) H)
 (p5 (q6 (q6 (p5 (E:=fun L H=>q26 LOc O L (G L 1) (G L 2) H) (q6 (q6 (p5 (E:=fun L H=>qnv LOc O L (G L 1) H) (q6 (p5 (E:=fun L H=>q29 O (G L 2) (G L 5) H) q0) (q6 (r8 (p5 (E:=fun L H=>zqi LOc O L (G L 25) H) (p7 (by kernel_rfl)))) q0))) q0) q0)) q0) q0))
theorem qxw{P:Program}{O:Ev.Call}{l:Nat}{v:AV}{H:Hp}{L L1:TT AV 2}(p:LP)(h:H.get l=p.blk true L)(hps:(Nat.beq p.ps.length 1&&p.ps.all fun q=>Nat.blt q p.n)=true)(has:(den P 2 p.n p.aC).f O (yH ((setter 2 p.n).f L .undef) p.ps [v]) H=.ok .normal L1 H):qez P O l [v] H=endRound l ((den P 2 p.n p.bd).f O L1 (H.put l (p.blk false L))):=by unfold qez;have hl:([v]:List AV).length=1:=rfl;simp only[h,LP.blk,hl,hps,qy,has]
theorem qgs(l:Nat)(r:Rc 2):endRound l r=fin r (fun e L H=>endRound l (.ok e L H)):=by cases r<;>rfl
theorem qp7(O:Ev.Call)(L:TT AV 2)(l:Nat)(v:AV)(H:Hp)(h:H.get l=LAc.blk true L):qez Tryz.prog O l [v] H=eF O l L (G L 2) v (H.put l (LAc.blk false L)):=by rw[qxw LAc h (by kernel_rfl) (L1:=(setter 2 5).f (yH ((setter 2 13).f L .undef) [7] [v]) v) (by kernel_rfl),qgs];exact(p5 (c:=LAc.bd) (P:=Tryz.prog) (n:=13) (E:=fun M H=>eF O l L (G M 2) (G M 5) H) q0 (fun M H=>by kernel_rfl) _ _).trans (by kernel_rfl)
theorem zgm(O:Ev.Call)(L:TT AV 2)(l:Nat)(v:AV)(H:Hp)(h:H.get l=LOc.blk true L):qez Tryz.prog O l [v] H=tY O l L (G L 5) v (H.put l (LOc.blk false L)):=by
 rw[qxw LOc h (by kernel_rfl) (L1:=(setter 2 6).f (yH ((setter 2 53).f L .undef) [26] [v]) v) (by kernel_rfl),qgs];have key:Lk Tryz.prog 2 53 O LOc.bd (fun e L H=>endRound l (.ok e L H)) (fun M H=>tY O l L (G M 5) (G M 6) H):=
  p5 (c:=LOc.bd) (r8 (q6 (p5 (E:=fun M H=>qh4 O l L (G M 5) (G M 6) H) q0) (q6 (r8 (p5 (E:=fun M H=>q3b O (fun H=>qh4 O l L (G M 5) (G M 6) H) (G M 5) (G M 27) (G M 28) (G M 29) H) (pT (D:=fun k27 M H=>qka O (fun H=>qh4 O l L (G M 5) (G M 6) H) (G M 5) (G M 27) (G M 28) k27 (G M 29) H) (fun k27=>p5 (q6 (q6 (p5 (E:=fun M H=>q27 O (fun x29 H=>qka O (fun H=>qh4 O l L (G M 5) (G M 6) H) (G M 5) (G M 27) (G M 28) k27 x29 H) (G M 5) (G M 27) (G M 29) H) (q6 (p5 (E:=fun M H=>q28 O (fun x29 H=>qka O (fun H=>qh4 O l L (G M 5) (G M 6) H) (G M 5) (G M 27) (G M 28) k27 x29 H) (G M 29) H) q0) q0)) q0) q0))) (fun _ _=>by kernel_rfl))) q0))) (fun M H=>by kernel_rfl)
 exact(key _ _).trans (by kernel_rfl)
def LQc:LP:=qks 13 (codeOf Tryz.f125)
theorem zns(O:Ev.Call)(x0 x1:AV)(H:Hp):(aM Tryz.prog 125).f O [x0,x1] H=aHc LQc O x0 x1 H:=
 r7 Tryz.func125 (D:=fun L H=>znt LQc O L (G L 0) (G L 1) H)
 (p5 (q6 (q6 (p5 (E:=fun L H=>q6b O (G L 2) H) q0) (q6 (r8 (p5 (E:=fun L H=>znr LQc O L (G L 6) H) (p7 (by kernel_rfl)))) q0)) q0))
def aEm(P:Program)(O:Ev.Call)(p:LP)(l:Nat):Kt 2:=fun e L1 H1=>match e with
 | .normal=>(match H1.get l with
  | .loop true none d' n' L' ps' as' bd'=>endRound l ((den P 2 p.n p.bd).f O L1 (H1.put l (.loop false none d' n' L' ps' as' bd')))
  |_=>.bad)
 |_=>.bad
theorem zaa{P:Program}{O:Ev.Call}{l:Nat}{v:AV}{H:Hp}{L:TT AV 2}(p:LP)(h:H.get l=p.blk true L)(hps:(Nat.beq p.ps.length 1&&p.ps.all fun q=>Nat.blt q p.n)=true):qez P O l [v] H=fin ((den P 2 p.n p.aC).f O (yH ((setter 2 p.n).f L .undef) p.ps [v]) H) (aEm P O p l):=by
 unfold qez;have hl:([v]:List AV).length=1:=rfl;simp only[h,LP.blk,hl,hps,qy];cases (den P 2 p.n p.aC).f O (yH ((setter 2 p.n).f L .undef) p.ps [v]) H with
 |bad=>rfl
 |ok e L1 H1=>cases e<;>rfl
theorem zcl(O:Ev.Call)(L:TT AV 2)(l:Nat)(x y:AV)(H:Hp)(h:H.get l=LQc.blk true L)(hl:l<H.nx):qez Tryz.prog O l [.agg [x,y]] H=qQ O l L (G L 2) (.ptr H.nx 0) (((aO H (aB 0 [.str 0 0,.str 0 0])).put H.nx (aB 0 [x,y])).put l (LQc.blk false L)):=by
 rw[zaa LQc h (by kernel_rfl)];refine(p5 (c:=LQc.aC) (P:=Tryz.prog) (n:=13) (K:=aEm Tryz.prog O LQc l) (E:=fun M H=>vq (.new (.ptr H.nx 0) (aB 0 [.str 0 0,.str 0 0])) H fun a3 H=>ve (xV 2 H a3 (G M 7)) fun _ H=>aEm Tryz.prog O LQc l .normal ((setter 2 5).f M a3) H) q0 (fun M H=>by kernel_rfl) _ _).trans ?_;have gM:G (yH ((setter 2 LQc.n).f L AV.undef) LQc.ps [.agg [x,y]]) 7=.agg [x,y]:=by kernel_rfl
 have hg:((aO H (aB 0 [.str 0 0,.str 0 0])).put H.nx (aB 0 [x,y])).get l=LQc.blk true L:=by rw[dG _ _ _ _ (by omega),qbj _ _ _ hl];exact h
 simp only[];rw[gM];simp(disch:=first|omega|exact ti rfl|simp only[np,nq];first|done|omega)only[go_sem,rB,rI,rK,rL,rN,rS,r6];unfold aEm;simp only[hg,LP.blk];rw[qgs];exact(p5 (c:=LQc.bd) (P:=Tryz.prog) (n:=13) (E:=fun M H=>qQ O l L (G M 2) (G M 5) H) q0 (fun M H=>by kernel_rfl) _ _).trans (by kernel_rfl)
end Go.Di
end
