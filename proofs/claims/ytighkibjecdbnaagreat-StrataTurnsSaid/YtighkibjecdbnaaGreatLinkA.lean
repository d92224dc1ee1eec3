/-
 For StrataTurns: the direct functions are what the evaluator computes, part 1. No conditions beyond those that each theorem states.
-/
import Derived.Test.YtighkibjecdbnaaGreatConB
import Derived.Test.YtighkibjecdbnaaGreatConC
import Derived.Test.YtighkibjecdbnaaGreatProg
import Derived.KernelRfl
set_option linter.unusedSimpArgs false
set_option linter.unusedVariables false
noncomputable section
namespace Go.Di
open Go.Ev Go.Proofs
set_option maxRecDepth 100000
variable (O:Ev.Call) (x0 x1 x2 x3 x4 x5 x6 x7:AV) (H:Hp)
theorem zph:(aP Tryz.prog 47).f O [x0,x1,x2] H=zGe O x0 x1 x2 H:=
 r7 Tryz.func47 (D:=fun L H=>zyt O (G L 0) (G L 1) (G L 2) H)
 (pT (qS (qS (pT (E:=fun L H=>qt9 O (G L 2) (G L 3) (G L 4) (G L 7) H) (pT (E:=fun L H=>qij O (G L 2) (G L 3) (G L 4) (G L 7) H) (qS (pT (E:=fun L H=>qcw O (G L 3) (G L 4) (G L 7) H) (pT (E:=fun L H=>qin O (G L 3) (G L 4) (G L 7) H) (qS (pT (E:=fun L H=>nL O (G L 3) (G L 4) (G L 7) H) (pT (E:=fun L H=>ql2 O (G L 3) (G L 4) (G L 7) H) (qS (pT (E:=fun L H=>q2k O (G L 3) (G L 4) (G L 7) (G L 14) H) (pT (E:=fun L H=>ql3 O (G L 3) (G L 4) (G L 7) (G L 14) H) (qS (qS (pT (E:=fun L H=>pQ O (G L 4) (G L 7) (G L 15) H) (pT (E:=fun L H=>qmd O (G L 4) (G L 7) (G L 15) H) (qS (pT (E:=fun L H=>zer O H) (pT (E:=fun L H=>qj1 O H) p7) (fun L H=>by rw[qii])) (qS (pT (E:=fun L H=>zeq O (G L 162) H) (pT (E:=fun L H=>qt7 O (G L 162) H) p7) (fun L H=>by rw[qyd])) p7))) (fun L H=>by rw[qrl])) (qS (r8 (pT (E:=fun L H=>q20 O (fun x6 H=>.ok x6 H) (fun a H=>pQ O (G L 4) (G L 7) a H) (G L 3) (G L 4) (G L 14) (G L 15) (G L 16) H) (pS (D:=fun c L H=>rC O (fun x6 H=>.ok x6 H) (fun a H=>pQ O (G L 4) (G L 7) a H) (G L 3) (G L 4) (G L 14) c (G L 15) (G L 16) H) (fun c=>pT (qS (pT (E:=fun L H=>q2m O (fun x6 H=>.ok x6 H) (fun a d H=>rC O (fun x6 H=>.ok x6 H) (fun a H=>pQ O (G L 4) (G L 7) a H) (G L 3) (G L 4) (G L 14) c a d H) (G L 3) (G L 4) (G L 14) (G L 15) (G L 16) H) (pT (E:=fun L H=>ql5 O (fun x6 H=>.ok x6 H) (fun a d H=>rC O (fun x6 H=>.ok x6 H) (fun a H=>pQ O (G L 4) (G L 7) a H) (G L 3) (G L 4) (G L 14) c a d H) (G L 3) (G L 4) (G L 14) (G L 15) (G L 16) H) (qS (pT (E:=fun L H=>q2s O (fun a d H=>rC O (fun x6 H=>.ok x6 H) (fun a H=>pQ O (G L 4) (G L 7) a H) (G L 3) (G L 4) (G L 14) c a d H) (G L 15) (G L 16) H) (pT (E:=fun L H=>qmc O (fun a d H=>rC O (fun x6 H=>.ok x6 H) (fun a H=>pQ O (G L 4) (G L 7) a H) (G L 3) (G L 4) (G L 14) c a d H) (G L 15) (G L 16) H) p7) (fun L H=>by rw[qrk])) (r8 (qS (pT (E:=fun L H=>q2n O (fun x6 H=>.ok x6 H) (fun a d H=>rC O (fun x6 H=>.ok x6 H) (fun a H=>pQ O (G L 4) (G L 7) a H) (G L 3) (G L 4) (G L 14) c a d H) (G L 3) (G L 4) (G L 15) (G L 16) (G L 17) H) (pT (E:=fun L H=>ql6 O (fun x6 H=>.ok x6 H) (fun a d H=>rC O (fun x6 H=>.ok x6 H) (fun a H=>pQ O (G L 4) (G L 7) a H) (G L 3) (G L 4) (G L 14) c a d H) (G L 3) (G L 4) (G L 15) (G L 16) (G L 17) H) (qS (pT (E:=fun L H=>qj0 O (fun x6 H=>.ok x6 H) (fun a d H=>rC O (fun x6 H=>.ok x6 H) (fun a H=>pQ O (G L 4) (G L 7) a H) (G L 3) (G L 4) (G L 14) c a d H) (G L 3) (G L 4) (G L 15) (G L 16) (G L 17) H) (pT (E:=fun L H=>ql9 O (fun x6 H=>.ok x6 H) (fun a d H=>rC O (fun x6 H=>.ok x6 H) (fun a H=>pQ O (G L 4) (G L 7) a H) (G L 3) (G L 4) (G L 14) c a d H) (G L 3) (G L 4) (G L 15) (G L 16) (G L 17) H) (qS (pT (E:=fun L H=>qt8 O (fun a d H=>rC O (fun x6 H=>.ok x6 H) (fun a H=>pQ O (G L 4) (G L 7) a H) (G L 3) (G L 4) (G L 14) c a d H) (G L 15) (G L 16) (G L 17) H) (pT (E:=fun L H=>qmb O (fun a d H=>rC O (fun x6 H=>.ok x6 H) (fun a H=>pQ O (G L 4) (G L 7) a H) (G L 3) (G L 4) (G L 14) c a d H) (G L 15) (G L 16) (G L 17) H) p7) (fun L H=>by rw[qrj])) (qS (pT (E:=fun L H=>q2q O (fun x6 H=>.ok x6 H) (fun a d H=>rC O (fun x6 H=>.ok x6 H) (fun a H=>pQ O (G L 4) (G L 7) a H) (G L 3) (G L 4) (G L 14) c a d H) (G L 15) (G L 16) (G L 17) (G L 132) H) (pT (E:=fun L H=>qma O (fun x6 H=>.ok x6 H) (fun a d H=>rC O (fun x6 H=>.ok x6 H) (fun a H=>pQ O (G L 4) (G L 7) a H) (G L 3) (G L 4) (G L 14) c a d H) (G L 15) (G L 16) (G L 17) (G L 132) H) p7) (fun L H=>by rw[qri])) p7))) (fun L H=>by rw[qrh])) (qS (pT (E:=fun L H=>q2o O (fun x6 H=>.ok x6 H) (fun a d H=>rC O (fun x6 H=>.ok x6 H) (fun a H=>pQ O (G L 4) (G L 7) a H) (G L 3) (G L 4) (G L 14) c a d H) (G L 3) (G L 4) (G L 15) (G L 16) (G L 17) (G L 106) H) (pT (E:=fun L H=>ql7 O (fun x6 H=>.ok x6 H) (fun a d H=>rC O (fun x6 H=>.ok x6 H) (fun a H=>pQ O (G L 4) (G L 7) a H) (G L 3) (G L 4) (G L 14) c a d H) (G L 3) (G L 4) (G L 15) (G L 16) (G L 17) (G L 106) H) (pA (qS (pT (E:=fun L H=>q2p O (fun x6 H=>.ok x6 H) (fun a d H=>rC O (fun x6 H=>.ok x6 H) (fun a H=>pQ O (G L 4) (G L 7) a H) (G L 3) (G L 4) (G L 14) c a d H) (G L 3) (G L 4) (G L 15) (G L 16) (G L 17) (G L 19) H) (pT (E:=fun L H=>ql8 O (fun x6 H=>.ok x6 H) (fun a d H=>rC O (fun x6 H=>.ok x6 H) (fun a H=>pQ O (G L 4) (G L 7) a H) (G L 3) (G L 4) (G L 14) c a d H) (G L 3) (G L 4) (G L 15) (G L 16) (G L 17) (G L 19) H) p7) (fun L H=>by rw[qrg])) p7) p7)) (fun L H=>by rw[qrf])) p7))) (fun L H=>by rw[qre])) p7)))) (fun L H=>by rw[qrd])) (qS (pT (E:=fun L H=>q2l O (fun x6 H=>.ok x6 H) (fun a d H=>rC O (fun x6 H=>.ok x6 H) (fun a H=>pQ O (G L 4) (G L 7) a H) (G L 3) (G L 4) (G L 14) c a d H) (fun a H=>pQ O (G L 4) (G L 7) a H) (G L 3) (G L 4) (G L 14) (G L 15) (G L 16) (G L 92) H) (pT (E:=fun L H=>ql4 O (fun x6 H=>.ok x6 H) (fun a d H=>rC O (fun x6 H=>.ok x6 H) (fun a H=>pQ O (G L 4) (G L 7) a H) (G L 3) (G L 4) (G L 14) c a d H) (fun a H=>pQ O (G L 4) (G L 7) a H) (G L 3) (G L 4) (G L 14) (G L 15) (G L 16) (G L 92) H) p7) (fun L H=>by rw[qrc])) p7)))) (fun _ _=>by kernel_rfl))) p7)) p7)) (fun L H=>by rw[qrb])) p7)) (fun L H=>by rw[qra])) (qS (r8 (pT (E:=fun L H=>q2y O (fun x6 H=>.ok x6 H) (fun H=>nL O (G L 3) (G L 4) (G L 7) H) (G L 3) (G L 7) (G L 9) H) (pS (D:=fun e L H=>nU O (fun x6 H=>.ok x6 H) (fun H=>nL O (G L 3) (G L 4) (G L 7) H) (G L 3) (G L 7) e (G L 9) H) (fun e=>pT (qS (pT (E:=fun L H=>que O (fun x6 H=>.ok x6 H) (fun b H=>nU O (fun x6 H=>.ok x6 H) (fun H=>nL O (G L 3) (G L 4) (G L 7) H) (G L 3) (G L 7) e b H) (G L 3) (G L 7) (G L 9) H) (pT (E:=fun L H=>qip O (fun x6 H=>.ok x6 H) (fun b H=>nU O (fun x6 H=>.ok x6 H) (fun H=>nL O (G L 3) (G L 4) (G L 7) H) (G L 3) (G L 7) e b H) (G L 3) (G L 7) (G L 9) H) (qS (pT (E:=fun L H=>qd5 O (fun b H=>nU O (fun x6 H=>.ok x6 H) (fun H=>nL O (G L 3) (G L 4) (G L 7) H) (G L 3) (G L 7) e b H) (G L 9) H) (pT (E:=fun L H=>ql1 O (fun b H=>nU O (fun x6 H=>.ok x6 H) (fun H=>nL O (G L 3) (G L 4) (G L 7) H) (G L 3) (G L 7) e b H) (G L 9) H) p7) (fun L H=>by rw[qq9])) (r8 (qS (pT (E:=fun L H=>quf O (fun x6 H=>.ok x6 H) (fun b H=>nU O (fun x6 H=>.ok x6 H) (fun H=>nL O (G L 3) (G L 4) (G L 7) H) (G L 3) (G L 7) e b H) (G L 3) (G L 7) (G L 9) (G L 10) H) (pT (E:=fun L H=>qiq O (fun x6 H=>.ok x6 H) (fun b H=>nU O (fun x6 H=>.ok x6 H) (fun H=>nL O (G L 3) (G L 4) (G L 7) H) (G L 3) (G L 7) e b H) (G L 3) (G L 7) (G L 9) (G L 10) H) (qS (pT (E:=fun L H=>qug O (fun x6 H=>.ok x6 H) (fun b H=>nU O (fun x6 H=>.ok x6 H) (fun H=>nL O (G L 3) (G L 4) (G L 7) H) (G L 3) (G L 7) e b H) (G L 3) (G L 7) (G L 9) (G L 10) (G L 12) H) (pT (E:=fun L H=>qir O (fun x6 H=>.ok x6 H) (fun b H=>nU O (fun x6 H=>.ok x6 H) (fun H=>nL O (G L 3) (G L 4) (G L 7) H) (G L 3) (G L 7) e b H) (G L 3) (G L 7) (G L 9) (G L 10) (G L 12) H) (qS (pT (E:=fun L H=>qt6 O (fun x6 H=>.ok x6 H) (fun b H=>nU O (fun x6 H=>.ok x6 H) (fun H=>nL O (G L 3) (G L 4) (G L 7) H) (G L 3) (G L 7) e b H) (G L 7) (G L 9) (G L 10) H) (pT (E:=fun L H=>qlx O (fun x6 H=>.ok x6 H) (fun b H=>nU O (fun x6 H=>.ok x6 H) (fun H=>nL O (G L 3) (G L 4) (G L 7) H) (G L 3) (G L 7) e b H) (G L 7) (G L 9) (G L 10) H) (qS (r8 (pT (E:=fun L H=>q2x O (fun x6 H=>.ok x6 H) (fun H=>qd5 O (fun b H=>nU O (fun x6 H=>.ok x6 H) (fun H=>nL O (G L 3) (G L 4) (G L 7) H) (G L 3) (G L 7) e b H) (G L 9) H) (G L 7) (G L 9) (G L 10) (G L 13) H) (pS (D:=fun f L H=>qes O (fun x6 H=>.ok x6 H) (fun H=>qd5 O (fun b H=>nU O (fun x6 H=>.ok x6 H) (fun H=>nL O (G L 3) (G L 4) (G L 7) H) (G L 3) (G L 7) e b H) (G L 9) H) (G L 7) (G L 9) (G L 10) f (G L 13) H) (fun f=>pT (qS (pT (E:=fun L H=>q2h O (fun x6 H=>.ok x6 H) (fun g H=>qes O (fun x6 H=>.ok x6 H) (fun H=>qd5 O (fun b H=>nU O (fun x6 H=>.ok x6 H) (fun H=>nL O (G L 3) (G L 4) (G L 7) H) (G L 3) (G L 7) e b H) (G L 9) H) (G L 7) (G L 9) (G L 10) f g H) (G L 7) (G L 10) (G L 13) H) (pT (E:=fun L H=>qly O (fun x6 H=>.ok x6 H) (fun g H=>qes O (fun x6 H=>.ok x6 H) (fun H=>qd5 O (fun b H=>nU O (fun x6 H=>.ok x6 H) (fun H=>nL O (G L 3) (G L 4) (G L 7) H) (G L 3) (G L 7) e b H) (G L 9) H) (G L 7) (G L 9) (G L 10) f g H) (G L 7) (G L 10) (G L 13) H) (qS (pT (E:=fun L H=>q2j O (fun g H=>qes O (fun x6 H=>.ok x6 H) (fun H=>qd5 O (fun b H=>nU O (fun x6 H=>.ok x6 H) (fun H=>nL O (G L 3) (G L 4) (G L 7) H) (G L 3) (G L 7) e b H) (G L 9) H) (G L 7) (G L 9) (G L 10) f g H) (G L 13) H) (pT (E:=fun L H=>ql0 O (fun g H=>qes O (fun x6 H=>.ok x6 H) (fun H=>qd5 O (fun b H=>nU O (fun x6 H=>.ok x6 H) (fun H=>nL O (G L 3) (G L 4) (G L 7) H) (G L 3) (G L 7) e b H) (G L 9) H) (G L 7) (G L 9) (G L 10) f g H) (G L 13) H) p7) (fun L H=>by rw[qq8])) (r8 (qS (pT (E:=fun L H=>q2i O (fun x6 H=>.ok x6 H) (fun g H=>qes O (fun x6 H=>.ok x6 H) (fun H=>qd5 O (fun b H=>nU O (fun x6 H=>.ok x6 H) (fun H=>nL O (G L 3) (G L 4) (G L 7) H) (G L 3) (G L 7) e b H) (G L 9) H) (G L 7) (G L 9) (G L 10) f g H) (G L 13) (G L 85) H) (pT (E:=fun L H=>qlz O (fun x6 H=>.ok x6 H) (fun g H=>qes O (fun x6 H=>.ok x6 H) (fun H=>qd5 O (fun b H=>nU O (fun x6 H=>.ok x6 H) (fun H=>nL O (G L 3) (G L 4) (G L 7) H) (G L 3) (G L 7) e b H) (G L 9) H) (G L 7) (G L 9) (G L 10) f g H) (G L 13) (G L 85) H) p7) (fun L H=>by rw[qq7])) p7)))) (fun L H=>by rw[qq6])) p7))) (fun _ _=>by kernel_rfl))) p7)) (fun L H=>by rw[qq5])) (qS (pT (E:=fun L H=>quh O (fun x6 H=>.ok x6 H) (fun b H=>nU O (fun x6 H=>.ok x6 H) (fun H=>nL O (G L 3) (G L 4) (G L 7) H) (G L 3) (G L 7) e b H) (G L 7) (G L 9) (G L 10) (G L 73) H) (pT (E:=fun L H=>qis O (fun x6 H=>.ok x6 H) (fun b H=>nU O (fun x6 H=>.ok x6 H) (fun H=>nL O (G L 3) (G L 4) (G L 7) H) (G L 3) (G L 7) e b H) (G L 7) (G L 9) (G L 10) (G L 73) H) p7) (fun L H=>by rw[qnl])) p7))) (fun L H=>by rw[qnk])) p7)) (fun L H=>by rw[qnj])) p7)))) (fun L H=>by rw[qni])) (qS (pT (E:=fun L H=>qud O (fun x6 H=>.ok x6 H) (fun b H=>nU O (fun x6 H=>.ok x6 H) (fun H=>nL O (G L 3) (G L 4) (G L 7) H) (G L 3) (G L 7) e b H) (fun H=>nL O (G L 3) (G L 4) (G L 7) H) (G L 3) (G L 7) (G L 9) (G L 43) H) (pT (E:=fun L H=>qio O (fun x6 H=>.ok x6 H) (fun b H=>nU O (fun x6 H=>.ok x6 H) (fun H=>nL O (G L 3) (G L 4) (G L 7) H) (G L 3) (G L 7) e b H) (fun H=>nL O (G L 3) (G L 4) (G L 7) H) (G L 3) (G L 7) (G L 9) (G L 43) H) p7) (fun L H=>by rw[qnh])) p7)))) (fun _ _=>by kernel_rfl))) p7))) (fun L H=>by rw[qng])) (qS (r8 (pT (E:=fun L H=>quj O (fun x6 H=>.ok x6 H) (fun H=>qcw O (G L 3) (G L 4) (G L 7) H) (G L 2) (G L 4) (G L 7) (G L 8) H) (pS (D:=fun i L H=>qdg O (fun x6 H=>.ok x6 H) (fun H=>qcw O (G L 3) (G L 4) (G L 7) H) (G L 2) (G L 4) (G L 7) i (G L 8) H) (fun i=>pT (qS (pT (E:=fun L H=>qua O (fun x6 H=>.ok x6 H) (fun h H=>qdg O (fun x6 H=>.ok x6 H) (fun H=>qcw O (G L 3) (G L 4) (G L 7) H) (G L 2) (G L 4) (G L 7) i h H) (G L 4) (G L 7) (G L 8) H) (pT (E:=fun L H=>qik O (fun x6 H=>.ok x6 H) (fun h H=>qdg O (fun x6 H=>.ok x6 H) (fun H=>qcw O (G L 3) (G L 4) (G L 7) H) (G L 2) (G L 4) (G L 7) i h H) (G L 4) (G L 7) (G L 8) H) (qS (pT (E:=fun L H=>quc O (fun h H=>qdg O (fun x6 H=>.ok x6 H) (fun H=>qcw O (G L 3) (G L 4) (G L 7) H) (G L 2) (G L 4) (G L 7) i h H) (G L 8) H) (pT (E:=fun L H=>qim O (fun h H=>qdg O (fun x6 H=>.ok x6 H) (fun H=>qcw O (G L 3) (G L 4) (G L 7) H) (G L 2) (G L 4) (G L 7) i h H) (G L 8) H) p7) (fun L H=>by rw[qnf])) (r8 (qS (pT (E:=fun L H=>qub O (fun x6 H=>.ok x6 H) (fun h H=>qdg O (fun x6 H=>.ok x6 H) (fun H=>qcw O (G L 3) (G L 4) (G L 7) H) (G L 2) (G L 4) (G L 7) i h H) (G L 8) (G L 38) H) (pT (E:=fun L H=>qil O (fun x6 H=>.ok x6 H) (fun h H=>qdg O (fun x6 H=>.ok x6 H) (fun H=>qcw O (G L 3) (G L 4) (G L 7) H) (G L 2) (G L 4) (G L 7) i h H) (G L 8) (G L 38) H) p7) (fun L H=>by rw[qne])) p7)))) (fun L H=>by rw[qnd])) p7))) (fun _ _=>by kernel_rfl))) p7))) (fun L H=>by rw[qnc])) p7) p7))
theorem zqs:(aP Tryz.prog 70).f O [x0] H=zCb O x0 H:=
 r7 Tryz.func70 (D:=fun L H=>zuq O 3 aAt zY (G L 0) H)
 (pT (qS (qS (qS p7 (qS (r8 (pS (D:=fun b L H=>zbg O 3 aAt zY (fun x2 H=>.ok x2 H) (fun H=>zx8 O 3 aAt zY (G L 0) H) (G L 0) b (G L 3) H) (fun b=>pT (qS (qS p7 (r8 (qS (pA (qS (qS p7 (qS (r8 (pS (D:=fun a L H=>qp8 O 3 aAt zY (fun x3 H=>qx1 O 3 aAt zY (fun x2 H=>.ok x2 H) (G L 0) x3 H) (G L 0) (G L 4) a (G L 3) (G L 5) H) (fun a=>pT p7))) p7)) p7) p7) p7))) p7)))) p7)) p7) p7))
theorem zrm:(aP Tryz.prog 37).f O [x0,x1,x2,x3] H=zBb O x0 x1 x2 x3 H:=
 r7 Tryz.func37 (D:=fun L H=>z0h O (G L 0) (G L 1) (G L 2) (G L 3) H)
 (pT (qS (qS (qS (qS p7 (qS (r8 (pS (D:=fun b L H=>qn5 O (fun a H=>zht O a H) (G L 3) (G L 4) (G L 10) b (G L 9) (G L 12) H) (fun b=>pT (qS (pL qr2 (fun x L H=>x O (fun a c H=>qn5 O (fun a H=>zht O a H) (G L 3) (G L 4) (G L 10) b a c H) (G L 3) (G L 4) (G L 9) (G L 10) (G L 12) H) (pT p7)) p7)))) p7)) p7) p7) p7))
theorem zpp:(aP Tryz.prog 156).f O [x0,x1] H=zDp O x0 x1 H:=
 r7 Tryz.func156 (D:=fun L H=>zy1 O (G L 0) (G L 1) H)
 (pT (qS (qS p7 (qS (r8 (pS (D:=fun k2 L H=>q70 O (fun x4 H=>.ok x4 H) (fun H=>ze5 O H) (G L 0) (G L 1) (G L 7) k2 (G L 8) H) (fun k2=>pT p7))) p7)) p7))
theorem zps:(aP Tryz.prog 155).f O [x0,x1] H=zDm O x0 x1 H:=
 r7 Tryz.func155 (D:=fun L H=>zy4 O (G L 0) (G L 1) H)
 (pT (qS (qS p7 (qS (r8 (pS (D:=fun a L H=>q71 O (fun x4 H=>.ok x4 H) (fun H=>ze8 O H) (G L 0) (G L 3) (G L 7) a (G L 8) H) (fun a=>pT p7))) p7)) p7))
theorem zrh:(aP Tryz.prog 57).f O [x0,x1,x2,x3] H=zBf O x0 x1 x2 x3 H:=
 r7 Tryz.func57 (D:=fun L H=>z0e O (G L 0) (G L 1) (G L 2) (G L 3) H)
 (pT (qS (qS (qS p7 (qS (r8 (pS (D:=fun a L H=>qvc O (fun b H=>zhq O (G L 2) (G L 8) b H) (G L 1) (G L 3) (G L 4) a (G L 9) (G L 10) H) (fun a=>pT p7))) p7)) p7) p7))
theorem zpj:(aP Tryz.prog 20).f O [x0] H=zGc O x0 H:=
 r7 Tryz.func20 (D:=fun L H=>zyv O (G L 0) H)
 (pT (qS (qS (qS (pT (E:=fun L H=>q3g O (G L 1) (G L 4) H) (qS (qS (pT (E:=fun L H=>q3h O (G L 1) (G L 6) H) p7) p7) p7)) p7) p7) p7))
theorem zpo:(aP Tryz.prog 186).f O [x0,x1] H=zDq O x0 x1 H:=
 r7 Tryz.func186 (D:=fun L H=>zy0 O (G L 0) (G L 1) H)
 (pT (qS (r8 (pS (D:=fun k2 L H=>q7z O (fun H=>.ok (.aX []) H) (fun H=>.ok (.aX []) H) (G L 0) (G L 5) (G L 6) k2 (G L 7) H) (fun k2=>pT p7))) p7))
theorem zqb:(aP Tryz.prog 104).f O [x0] H=zCt O x0 H:=
 r7 Tryz.func104 (D:=fun L H=>zzi O (G L 0) H)
 (pT (qS (qS (qS p7 (qS (r8 (pS (D:=fun k2 L H=>q78 O (fun x2 H=>.ok x2 H) (fun H=>zfy O (G L 3) H) (G L 3) (G L 6) (G L 7) k2 (G L 8) H) (fun k2=>pT p7))) p7)) p7) p7))
theorem zq2:(aP Tryz.prog 46).f O [x0,x1] H=zBs O x0 x1 H:=
 r7 Tryz.func46 (D:=fun L H=>zz2 O (G L 0) (G L 1) H)
 (pT (qS (qS p7 (qS (r8 (pS (D:=fun k2 L H=>q8f O (fun x4 H=>.ok x4 H) (fun H=>zgz O H) (G L 1) (G L 2) k2 (G L 5) H) (fun k2=>pT p7))) p7)) p7))
theorem zra:(aP Tryz.prog 42).f O [x0,x1,x2,x3,x4,x5,x6] H=zBl O x0 x1 x2 x3 x4 x5 x6 H:=
 r7 Tryz.func42 (D:=fun L H=>zz8 O (G L 0) (G L 1) (G L 2) (G L 3) (G L 4) (G L 5) (G L 6) H)
 (pT p7)
theorem zql:(aP Tryz.prog 93).f O [x0,x1,x2,x3] H=zCj O x0 x1 x2 x3 H:=
 r7 Tryz.func93 (D:=fun L H=>zzr O (G L 0) (G L 1) (G L 2) (G L 3) H)
 (pT p7)
theorem zpg:(aP Tryz.prog 50).f O [x0,x1] H=zGf O x0 x1 H:=
 r7 Tryz.func50 (D:=fun L H=>zys O (G L 0) (G L 1) H)
 (pT p7)
theorem zqk:(aP Tryz.prog 94).f O [x0,x1] H=zCk O x0 x1 H:=
 r7 Tryz.func94 (D:=fun L H=>zzq O (G L 0) (G L 1) H)
 (pT p7)
theorem zrn:(aP Tryz.prog 36).f O [x0,x1,x2,x3] H=zBa O x0 x1 x2 x3 H:=
 r7 Tryz.func36 (D:=fun L H=>z0i O (G L 0) (G L 1) (G L 2) (G L 3) H)
 (pT p7)
theorem zqn:(aP Tryz.prog 77).f O [x0] H=zCg O x0 H:=
 r7 Tryz.func77 (D:=fun L H=>zzt O (G L 0) H)
 (pT p7)
theorem zrj:(aP Tryz.prog 39).f O [x0] H=zBd O x0 H:=
 r7 Tryz.func39 (D:=fun L H=>zrk O (G L 0) H)
 (pT p7)
theorem zp4:(aP Tryz.prog 99).f O [x0,x1] H=zDa O x0 x1 H:=
 r7 Tryz.func99 (D:=fun L H=>zzd O (G L 0) (G L 1) H)
 (pT p7)
theorem zr6:(aP Tryz.prog 8).f O [x0] H=zAe O x0 H:=
 r7 Tryz.func8 (D:=fun L H=>z0w O (G L 0) H)
 (pT p7)
theorem zrf:(aP Tryz.prog 59).f O [x0] H=zBh O x0 H:=
 r7 Tryz.func59 (D:=fun L H=>z0b O (G L 0) H)
 (pT p7)
theorem zri:(aP Tryz.prog 56).f O [x0] H=zBe O x0 H:=
 r7 Tryz.func56 (D:=fun L H=>z0f O (G L 0) H)
 (pT p7)
theorem q7y:(aP Tryz.prog 4).f O [x0,x1] H=zFz O x0 x1 H:=
 r7 Tryz.func4 (D:=fun L H=>zyy O (G L 0) (G L 1) H)
 (pT (qS (qS (pT (E:=fun L H=>qup O (G L 1) (G L 2) H) (pT (E:=fun L H=>qix O (G L 1) (G L 2) H) (qS (pT (E:=fun L H=>quq O (G L 1) (G L 5) H) (pT (E:=fun L H=>qiy O (G L 1) (G L 5) H) (qS (pT (E:=fun L H=>pF O (G L 5) H) (pT (E:=fun L H=>qmj O (G L 5) H) (qS (pT (E:=fun L H=>q3v O (G L 5) (G L 9) (G L 10) H) (pT (E:=fun L H=>qiv O (G L 5) (G L 9) (G L 10) H) (qS (pT (E:=fun L H=>q3w O (G L 5) (G L 9) (G L 10) H) (pT (E:=fun L H=>qmk O (G L 5) (G L 9) (G L 10) H) (qS (pT (E:=fun L H=>q3x O (G L 5) (G L 10) (G L 11) (G L 12) H) (pT (E:=fun L H=>qiw O (G L 5) (G L 10) (G L 11) (G L 12) H) p7) (fun L H=>by rw[qj7])) p7)) (fun L H=>by rw[qrt])) p7)) (fun L H=>by rw[qj6])) p7)) (fun L H=>by rw[qrs])) (qS (r8 (pT (E:=fun L H=>q30 O (fun x4 H=>.ok x4 H) (fun H=>pF O (G L 5) H) (G L 1) (G L 5) (G L 6) H) (pS (D:=fun a L H=>qbv O (fun x4 H=>.ok x4 H) (fun H=>pF O (G L 5) H) (G L 1) (G L 5) a (G L 6) H) (fun a=>pT (qS (pT (E:=fun L H=>qml O (fun x6 H=>qbv O (fun x4 H=>.ok x4 H) (fun H=>pF O (G L 5) H) (G L 1) (G L 5) a x6 H) (fun x4 H=>.ok x4 H) (G L 1) (G L 5) (G L 6) H) (pT (E:=fun L H=>qiz O (fun x6 H=>qbv O (fun x4 H=>.ok x4 H) (fun H=>pF O (G L 5) H) (G L 1) (G L 5) a x6 H) (fun x4 H=>.ok x4 H) (G L 1) (G L 5) (G L 6) H) (qS (pT (E:=fun L H=>qun O (fun x6 H=>qbv O (fun x4 H=>.ok x4 H) (fun H=>pF O (G L 5) H) (G L 1) (G L 5) a x6 H) (G L 6) H) (pT (E:=fun L H=>qiu O (fun x6 H=>qbv O (fun x4 H=>.ok x4 H) (fun H=>pF O (G L 5) H) (G L 1) (G L 5) a x6 H) (G L 6) H) p7) (fun L H=>by rw[qj5])) (r8 (qS (pT (E:=fun L H=>q3q O (fun x6 H=>qbv O (fun x4 H=>.ok x4 H) (fun H=>pF O (G L 5) H) (G L 1) (G L 5) a x6 H) (fun x4 H=>.ok x4 H) (G L 1) (G L 5) (G L 6) (G L 7) H) (pT (E:=fun L H=>qme O (fun x6 H=>qbv O (fun x4 H=>.ok x4 H) (fun H=>pF O (G L 5) H) (G L 1) (G L 5) a x6 H) (fun x4 H=>.ok x4 H) (G L 1) (G L 5) (G L 6) (G L 7) H) (qS (pT (E:=fun L H=>qul O (fun x4 H=>.ok x4 H) (fun x6 H=>qbv O (fun x4 H=>.ok x4 H) (fun H=>pF O (G L 5) H) (G L 1) (G L 5) a x6 H) (G L 1) (G L 5) (G L 6) (G L 7) H) (pT (E:=fun L H=>qmf O (fun x4 H=>.ok x4 H) (fun x6 H=>qbv O (fun x4 H=>.ok x4 H) (fun H=>pF O (G L 5) H) (G L 1) (G L 5) a x6 H) (G L 1) (G L 5) (G L 6) (G L 7) H) (qS (pT (E:=fun L H=>qum O (fun x4 H=>.ok x4 H) (fun x6 H=>qbv O (fun x4 H=>.ok x4 H) (fun H=>pF O (G L 5) H) (G L 1) (G L 5) a x6 H) (G L 1) (G L 5) (G L 6) (G L 7) (G L 8) H) (pT (E:=fun L H=>qmg O (fun x4 H=>.ok x4 H) (fun x6 H=>qbv O (fun x4 H=>.ok x4 H) (fun H=>pF O (G L 5) H) (G L 1) (G L 5) a x6 H) (G L 1) (G L 5) (G L 6) (G L 7) (G L 8) H) (qS (pT (E:=fun L H=>qhu O (fun x4 H=>.ok x4 H) (fun x6 H=>qbv O (fun x4 H=>.ok x4 H) (fun H=>pF O (G L 5) H) (G L 1) (G L 5) a x6 H) (G L 5) (G L 6) H) (pT (E:=fun L H=>qmh O (fun x4 H=>.ok x4 H) (fun x6 H=>qbv O (fun x4 H=>.ok x4 H) (fun H=>pF O (G L 5) H) (G L 1) (G L 5) a x6 H) (G L 5) (G L 6) H) (qS (pT (E:=fun L H=>q3u O (fun x4 H=>.ok x4 H) (fun x6 H=>qbv O (fun x4 H=>.ok x4 H) (fun H=>pF O (G L 5) H) (G L 1) (G L 5) a x6 H) (G L 6) (G L 87) H) (pT (E:=fun L H=>qmi O (fun x4 H=>.ok x4 H) (fun x6 H=>qbv O (fun x4 H=>.ok x4 H) (fun H=>pF O (G L 5) H) (G L 1) (G L 5) a x6 H) (G L 6) (G L 87) H) p7) (fun L H=>by rw[qrr])) p7)) (fun L H=>by rw[qrq])) p7)) (fun L H=>by rw[qrp])) p7)) (fun L H=>by rw[qro])) (qS (pT (E:=fun L H=>q3s O (fun x6 H=>qbv O (fun x4 H=>.ok x4 H) (fun H=>pF O (G L 5) H) (G L 1) (G L 5) a x6 H) (fun x4 H=>.ok x4 H) (G L 1) (G L 5) (G L 6) (G L 7) (G L 44) H) (pT (E:=fun L H=>qit O (fun x6 H=>qbv O (fun x4 H=>.ok x4 H) (fun H=>pF O (G L 5) H) (G L 1) (G L 5) a x6 H) (fun x4 H=>.ok x4 H) (G L 1) (G L 5) (G L 6) (G L 7) (G L 44) H) p7) (fun L H=>by rw[qj4])) p7))) (fun L H=>by rw[qrn])) p7)))) (fun L H=>by rw[qnp])) (qS (pT (E:=fun L H=>qur O (fun x6 H=>qbv O (fun x4 H=>.ok x4 H) (fun H=>pF O (G L 5) H) (G L 1) (G L 5) a x6 H) (fun x4 H=>.ok x4 H) (fun H=>pF O (G L 5) H) (G L 1) (G L 5) (G L 6) (G L 22) H) (pT (E:=fun L H=>qf2 O (fun x6 H=>qbv O (fun x4 H=>.ok x4 H) (fun H=>pF O (G L 5) H) (G L 1) (G L 5) a x6 H) (fun x4 H=>.ok x4 H) (fun H=>pF O (G L 5) H) (G L 1) (G L 5) (G L 6) (G L 22) H) p7) (fun L H=>by rw[qhv])) p7)))) (fun _ _=>by kernel_rfl))) p7))) (fun L H=>by rw[qno])) p7)) (fun L H=>by rw[qnn])) p7) p7))
def zwz(O:Ev.Call)(k21:Nat)(k32:Nat)(L:TT AV (iF (Tryz.f18.ntmps+1))):=fun H=>q5g O (fun x70 H=>qn8 O (fun H=>qvr O (fun x63 H=>qkh O (fun H=>qn9 O (G L 2) (G L 10) H) (G L 1) (G L 5) (G L 10) (G L 61) (G L 62) k21 x63 H) (G L 63) H) (G L 1) (G L 5) (G L 10) (G L 12) (G L 68) (G L 69) k32 x70 H) (G L 70) H
def zwy(O:Ev.Call)(k21:Nat)(k32:Nat)(k46:Nat)(L:TT AV (iF (Tryz.f18.ntmps+1))):=fun H=>qhy O (fun x82 H=>qkg O (zwz O k21 k32 L) (G L 1) (G L 5) (G L 10) (G L 12) (G L 14) (G L 80) (G L 81) k46 x82 H) (G L 82) H
theorem zrt:(aP Tryz.prog 18).f O [x0] H=zAt O x0 H:=
 r7 Tryz.func18 (D:=fun L H=>zru O (G L 0) H)
 (pT (qS (qS (qS (qS (qS (qS p7 (qS (r8 (pS (D:=fun a L H=>qkh O (fun H=>qn9 O (G L 2) (G L 10) H) (G L 1) (G L 5) (G L 10) (G L 61) (G L 62) a (G L 63) H) (fun a=>pT (qS (qS (qS p7 (r8 (qS (qS (r8 (pS (D:=fun b L H=>qn8 O (fun H=>qvr O (fun h H=>qkh O (fun H=>qn9 O (G L 2) (G L 10) H) (G L 1) (G L 5) (G L 10) (G L 61) (G L 62) a h H) (G L 63) H) (G L 1) (G L 5) (G L 10) (G L 12) (G L 68) (G L 69) b (G L 70) H) (fun b=>pT (qS (qS (qS p7 (r8 (qS (qS (qS (r8 (pS (D:=fun c L H=>qkg O (zwz O a b L) (G L 1) (G L 5) (G L 10) (G L 12) (G L 14) (G L 80) (G L 81) c (G L 82) H) (fun c=>pT (qS (qS (qS p7 (r8 (qS (qS (qS (r8 (qS (pA (qS (r8 (pS (D:=fun e L H=>qvp O (zwy O a b c L) (G L 19) (G L 92) (G L 93) e (G L 94) H) (fun e=>pT p7))) p7) (qS (pA p7 (qS (pA (qS (qS (r8 (pS (D:=fun f L H=>qvo O (zwy O a b c L) (G L 18) (G L 19) (G L 129) (G L 130) f (G L 131) H) (fun f=>pT p7))) p7) p7) p7) p7)) p7)) p7)) p7) p7) p7))) p7) p7)))) p7) p7) p7))) p7) p7)))) p7) p7))) p7) p7)))) p7)) p7) (qS (r8 (pS (D:=fun d L H=>qi0 O (fun H=>qmo O (G L 1) (G L 2) (G L 5) H) (G L 5) (G L 34) (G L 35) d (G L 36) H) (fun d=>pT (qS (qS (qS p7 (r8 (qS (qS (r8 (pS (D:=fun g L H=>qmn O (fun H=>qvs O (fun i H=>qi0 O (fun H=>qmo O (G L 1) (G L 2) (G L 5) H) (G L 5) (G L 34) (G L 35) d i H) (G L 36) H) (G L 5) (G L 7) (G L 41) (G L 42) g (G L 43) H) (fun g=>pT p7))) p7) p7))) p7) p7)))) p7)) p7) p7) p7))
def qyj(O:Ev.Call)(k1:Nat)(L:TT AV (iF (Tryz.f95.ntmps+1))):=fun bI H=>qrx O (fun x4 H=>.ok x4 H) (fun H=>q73 O H) (G L 0) (G L 1) (G L 10) (G L 11) k1 bI H
theorem zp6:(aP Tryz.prog 95).f O [x0,x1] H=zCy O x0 x1 H:=
 r7 Tryz.func95 (D:=fun L H=>zzf O (G L 0) (G L 1) H)
 (pT (qS (qS (pL qyi (fun x L H=>x O H) (pT p7)) (qS (pL qru (fun x L H=>x O (G L 0) (G L 1) (G L 10) (G L 11) (G L 12) H) (pT (r8 (pS (D:=fun a L H=>qrx O (fun x4 H=>.ok x4 H) (fun H=>q73 O H) (G L 0) (G L 1) (G L 10) (G L 11) a (G L 12) H) (fun a=>pT (qS (qS (pL qry (fun x L H=>x O (fun x4 H=>.ok x4 H) (qyj O a L) (G L 0) (G L 1) (G L 10) (G L 12) H) (pT (qS (pL qyh (fun x L H=>x O (qyj O a L) (G L 12) H) (pT p7)) (r8 (qS (pL qrv (fun x L H=>x O (fun x4 H=>.ok x4 H) (qyj O a L) (G L 0) (G L 1) (G L 5) (G L 6) (G L 12) H) (pT (r8 (qS (pL qrw (fun x L H=>x O (fun x4 H=>.ok x4 H) (qyj O a L) (G L 1) (G L 5) (G L 6) (G L 12) (G L 17) H) (pT (pA p7 (qS (pL qyg (fun x L H=>x O (fun x4 H=>.ok x4 H) (qyj O a L) (G L 12) (G L 40) H) (pT p7)) p7)))) p7)))) p7))))) p7) p7)))))) p7)) p7))
theorem zpf:(aP Tryz.prog 49).f O [x0,x1] H=zGg O x0 x1 H:=
 r7 Tryz.func49 (D:=fun L H=>zyr O (G L 0) (G L 1) H)
 (pT (qS (qS (pT (E:=fun L H=>qnb O H) p7) (qS (r8 (pT (E:=fun L H=>zep O (fun x4 H=>.ok x4 H) (fun H=>qnb O H) (G L 0) (G L 1) (G L 7) (G L 8) H) (pS (D:=fun k2 L H=>qq4 O (fun x4 H=>.ok x4 H) (fun H=>qnb O H) (G L 0) (G L 1) (G L 7) k2 (G L 8) H) (fun k2=>pT (qS (qS (pT (E:=fun L H=>zem O (fun x4 H=>.ok x4 H) (fun a H=>qq4 O (fun x4 H=>.ok x4 H) (fun H=>qnb O H) (G L 0) (G L 1) (G L 7) k2 a H) (G L 0) (G L 1) (G L 8) H) (qS (pT (E:=fun L H=>zen O (fun a H=>qq4 O (fun x4 H=>.ok x4 H) (fun H=>qnb O H) (G L 0) (G L 1) (G L 7) k2 a H) (G L 8) H) p7) p7)) p7) p7))) (fun _ _=>by kernel_rfl))) p7)) p7))
theorem zpa:(aP Tryz.prog 78).f O [x0] H=zGm O x0 H:=
 r7 Tryz.func78 (D:=fun L H=>zym O (G L 0) H)
 (pT (qS (qS (qS (pT (E:=fun L H=>qli O (G L 3) H) p7) (qS (r8 (pT (E:=fun L H=>zee O (fun x2 H=>.ok x2 H) (fun H=>qli O (G L 3) H) (G L 3) (G L 6) (G L 7) (G L 8) H) (pS (D:=fun k2 L H=>qq2 O (fun x2 H=>.ok x2 H) (fun H=>qli O (G L 3) H) (G L 3) (G L 6) (G L 7) k2 (G L 8) H) (fun k2=>pT (qS (qS (pT (E:=fun L H=>zeb O (fun x2 H=>.ok x2 H) (fun a H=>qq2 O (fun x2 H=>.ok x2 H) (fun H=>qli O (G L 3) H) (G L 3) (G L 6) (G L 7) k2 a H) (G L 3) (G L 6) (G L 8) H) (qS (pT (E:=fun L H=>zec O (fun a H=>qq2 O (fun x2 H=>.ok x2 H) (fun H=>qli O (G L 3) H) (G L 3) (G L 6) (G L 7) k2 a H) (G L 8) H) p7) p7)) p7) p7))) (fun _ _=>by kernel_rfl))) p7)) p7) p7))
theorem zo4:(aP Tryz.prog 111).f O [x0] H=zGq O x0 H:=
 r7 Tryz.func111 (D:=fun L H=>zo5 O (G L 0) H)
 (pT (qS (qS (qS (pT (E:=fun L H=>qq0 O (G L 3) H) p7) (qS (r8 (pT (E:=fun L H=>q7v O (fun x3 H=>qq0 O x3 H) (G L 1) (G L 3) (G L 4) H) (pS (D:=fun a L H=>q7u O (fun x3 H=>qq0 O x3 H) (G L 1) a (G L 3) (G L 4) H) (fun a=>pT (qS (pT (E:=fun L H=>q1w O (fun x3 x4 H=>q7u O (fun x3 H=>qq0 O x3 H) (G L 1) a x3 x4 H) (G L 1) (G L 4) H) (qS (pT (E:=fun L H=>zd4 O (fun x3 x4 H=>q7u O (fun x3 H=>qq0 O x3 H) (G L 1) a x3 x4 H) (G L 3) (G L 4) H) p7) p7)) p7))) (fun _ _=>by kernel_rfl))) p7)) p7) p7))
theorem zqa:(aP Tryz.prog 115).f O [x0,x1] H=zCu O x0 x1 H:=
 r7 Tryz.func115 (D:=fun L H=>z4q O (G L 0) (G L 1) H)
 (pT (p6 (qS (qS (qS (r8 (pS (D:=fun b L H=>qr0 O (fun H=>.ok (.aX []) H) (G L 0) b (G L 4) H) (fun b=>pT (qS (r8 (qS (qS p7 (r8 (pS (D:=fun a L H=>quy O (fun x4 H=>qr0 O (fun H=>.ok (.aX []) H) (G L 0) b x4 H) (fun x4 H=>quz O (fun x4 H=>qr0 O (fun H=>.ok (.aX []) H) (G L 0) b x4 H) (G L 0) x4 (G L 5) H) (G L 0) (G L 5) a (G L 4) H) (fun a=>pT (qS (r8 (qS (qS (qS p7 p7) p7) p7)) p7))))) p7)) p7)))) p7) p7) p7)))
theorem zq3:(aP Tryz.prog 61).f O [x0] H=zBr O x0 H:=
 r7 Tryz.func61 (D:=fun L H=>zz3 O (G L 0) H)
 (pT (qS (qS (qS p7 (qS (r8 (pS (D:=fun a L H=>qn0 O (fun H=>zg2 O (G L 3) H) (G L 3) (G L 16) (G L 17) a (G L 18) H) (fun a=>pT (qS (qS (qS p7 (r8 (qS (qS (qS (r8 (pS (D:=fun b L H=>qu6 O (fun H=>q4n O (fun c H=>qn0 O (fun H=>zg2 O (G L 3) H) (G L 3) (G L 16) (G L 17) a c H) (G L 18) H) (G L 3) (G L 5) (G L 32) b (G L 33) H) (fun b=>pT p7))) p7) p7) p7))) p7) p7)))) p7)) p7) p7))
theorem zr3:(aP Tryz.prog 11).f O [x0] H=zAh O x0 H:=
 r7 Tryz.func11 (D:=fun L H=>z0t O (G L 0) H)
 (pT (qS (qS (qS p7 (qS (r8 (pS (D:=fun k2 L H=>qyr O (fun x3 H=>ziv O x3 H) (G L 1) k2 (G L 3) (G L 4) H) (fun k2=>pT (qS (qS p7 (r8 (qS (r8 (pS (D:=fun a L H=>q8w O (fun x3 H=>zis O (fun x3 x4 H=>qyr O (fun x3 H=>ziv O x3 H) (G L 1) k2 x3 x4 H) x3 (G L 4) H) (G L 1) (G L 4) a (G L 3) (G L 5) H) (fun a=>pT p7))) p7))) p7)))) p7)) p7) p7))
theorem zqu:(aP Tryz.prog 66).f O [x0,x1,x2,x3] H=zBy O x0 x1 x2 x3 H:=
 r7 Tryz.func66 (D:=fun L H=>zzz O (G L 0) (G L 1) (G L 2) (G L 3) H)
 (pT (qS (qS (qS p7 (qS (qS (pA (qS (r8 (pS (D:=fun a L H=>qyl O (fun b H=>q8e O b H) (G L 0) (G L 3) (G L 22) (G L 23) a (G L 9) (G L 24) H) (fun a=>pT p7))) p7) p7) p7) p7)) p7) p7))
theorem zrq:(aP Tryz.prog 34).f O [x0,x1,x2] H=zAy O x0 x1 x2 H:=
 r7 Tryz.func34 (D:=fun L H=>z0j O (G L 0) (G L 1) (G L 2) H)
 (pT (qS (qS (qS p7 (qS (r8 (pS (D:=fun a L H=>qyo O (fun x7 H=>fM (kW (kP (rV (dQ 6 H (G L 6))) (kP (some x7) (some [])))) H) (fun H=>q8i O (G L 6) H) (G L 2) (G L 3) (G L 6) (G L 8) a (G L 9) H) (fun a=>pT p7))) p7)) p7) p7))
theorem zpz:(aP Tryz.prog 144).f O [x0,x1] H=zDe O x0 x1 H:=
 r7 Tryz.func144 (D:=fun L H=>zp0 O (G L 0) (G L 1) H)
 (pT (qS (qS (qS (qS p7 (qS (r8 (pS (D:=fun a L H=>qus O (fun H=>q31 O (G L 0) (G L 4) (G L 5) H) (G L 0) (G L 35) (G L 36) a (G L 37) H) (fun a=>pT p7))) p7)) p7) p7) p7))
theorem zr2:(aP Tryz.prog 16).f O [x0,x1,x2] H=zAm O x0 x1 x2 H:=
 r7 Tryz.func16 (D:=fun L H=>z0s O (G L 0) (G L 1) (G L 2) H)
 (pT (qS (qS (qS p7 (qS (r8 (pS (D:=fun a L H=>qyq O (fun x6 H=>.ok x6 H) (fun H=>zio O H) (G L 1) (G L 2) (G L 7) a (G L 8) H) (fun a=>pT p7))) p7)) p7) p7))
theorem zry:(aP Tryz.prog 27).f O [x0,x1,x2,x3,x4] H=zAp O x0 x1 x2 x3 x4 H:=
 r7 Tryz.func27 (D:=fun L H=>zrz O (G L 0) (G L 1) (G L 2) (G L 3) (G L 4) H)
 (pT (qS (qS (qS (qS (qS (qS (pT (E:=fun L H=>qhz O (G L 1) (G L 2) (G L 3) (G L 4) (G L 5) (G L 10) (G L 13) H) p7) p7) p7) p7) p7) p7) p7))
theorem zpl:(aP Tryz.prog 17).f O [x0] H=zGa O x0 H:=
 r7 Tryz.func17 (D:=fun L H=>zyx O (G L 0) H)
 (pT (qS (qS (qS (pT (E:=fun L H=>q3p O (G L 1) H) (qS (qS (pT (E:=fun L H=>zez O H) p7) p7) p7)) p7) p7) p7))
theorem zpd:(aP Tryz.prog 72).f O [x0] H=zGj O x0 H:=
 r7 Tryz.func72 (D:=fun L H=>zyp O (G L 0) H)
 (pT (qS (qS (qS (pT (E:=fun L H=>zej O (G L 1) H) p7) p7) p7) p7))
theorem zpy:(aP Tryz.prog 124).f O [x0,x1] H=zDf O x0 x1 H:=
 r7 Tryz.func124 (D:=fun L H=>zy9 O (G L 0) (G L 1) H)
 (pT p7)
theorem zqf:(aP Tryz.prog 102).f O [x0] H=zCp O x0 H:=
 r7 Tryz.func102 (D:=fun L H=>zzm O (G L 0) H)
 (pT p7)
theorem zq9:(aP Tryz.prog 43).f O [x0,x1,x2,x3] H=zBm O x0 x1 x2 x3 H:=
 r7 Tryz.func43 (D:=fun L H=>zz7 O (G L 0) (G L 1) (G L 2) (G L 3) H)
 (pT p7)
theorem zp1:(aP Tryz.prog 143).f O [x0,x1] H=zDd O x0 x1 H:=
 r7 Tryz.func143 (D:=fun L H=>zza O (G L 0) (G L 1) H)
 (pT p7)
theorem zre:(aP Tryz.prog 60).f O [x0,x1,x2] H=zBi O x0 x1 x2 H:=
 r7 Tryz.func60 (D:=fun L H=>z0a O (G L 0) (G L 1) (G L 2) H)
 (pT p7)
theorem zq1:(aP Tryz.prog 89).f O [x0,x1,x2] H=zBt O x0 x1 x2 H:=
 r7 Tryz.func89 (D:=fun L H=>z4v O (G L 0) (G L 1) (G L 2) H)
 (pT p7)
theorem zp9:(aP Tryz.prog 113).f O [x0,x1] H=zCv O x0 x1 H:=
 r7 Tryz.func113 (D:=fun L H=>z4p O (G L 0) (G L 1) H)
 (pT p7)
theorem zp2:(aP Tryz.prog 130).f O [x0] H=zDc O x0 H:=
 r7 Tryz.func130 (D:=fun L H=>zzb O (G L 0) H)
 (pT p7)
theorem zp7:(aP Tryz.prog 123).f O [x0] H=zCx O x0 H:=
 r7 Tryz.func123 (D:=fun L H=>zzg O (G L 0) H)
 (pT p7)
theorem zrb:(aP Tryz.prog 41).f O [x0] H=zBk O x0 H:=
 r7 Tryz.func41 (D:=fun L H=>zz9 O (G L 0) H)
 (pT p7)
theorem zrx:(aP Tryz.prog 28).f O [x0] H=zAq O x0 H:=
 r7 Tryz.func28 (D:=fun L H=>z0p O (G L 0) H)
 (pT p7)
theorem zpi:(aP Tryz.prog 45).f O [x0] H=zGd O x0 H:=
 r7 Tryz.func45 (D:=fun L H=>zyu O (G L 0) H)
 (pT (qS (qS (pT (E:=fun L H=>q21 O (G L 1) H) (qS (pT (E:=fun L H=>uG O H) p7) (qS (r8 (pT (E:=fun L H=>zet O (fun x2 H=>.ok x2 H) (fun H=>uG O H) (G L 1) (G L 3) H) (pS (D:=fun k2 L H=>uH O (fun x2 H=>.ok x2 H) (fun H=>uG O H) (G L 1) k2 (G L 3) H) (fun k2=>pT (qS (pT (E:=fun L H=>q23 O (fun x2 H=>.ok x2 H) (fun x3 H=>uH O (fun x2 H=>.ok x2 H) (fun H=>uG O H) (G L 1) k2 x3 H) (G L 1) (G L 3) H) (qS (pT (E:=fun L H=>qei O (fun x3 H=>uH O (fun x2 H=>.ok x2 H) (fun H=>uG O H) (G L 1) k2 x3 H) (G L 3) H) p7) (r8 (qS (qS (pT (E:=fun L H=>q25 O (fun x2 H=>.ok x2 H) (fun x3 H=>uH O (fun x2 H=>.ok x2 H) (fun H=>uG O H) (G L 1) k2 x3 H) (G L 3) (G L 4) H) (qS (pT (E:=fun L H=>q26 O (fun x2 H=>.ok x2 H) (fun x3 H=>uH O (fun x2 H=>.ok x2 H) (fun H=>uG O H) (G L 1) k2 x3 H) (G L 3) (G L 4) H) (qS (r8 (pT (E:=fun L H=>q3f O (fun x2 H=>.ok x2 H) (fun H=>qei O (fun x3 H=>uH O (fun x2 H=>.ok x2 H) (fun H=>uG O H) (G L 1) k2 x3 H) (G L 3) H) (G L 4) (G L 5) H) (pS (D:=fun a L H=>qc9 O (fun x2 H=>.ok x2 H) (fun H=>qei O (fun x3 H=>uH O (fun x2 H=>.ok x2 H) (fun H=>uG O H) (G L 1) k2 x3 H) (G L 3) H) (G L 4) a (G L 5) H) (fun a=>pT (qS (pT (E:=fun L H=>q27 O (fun x2 H=>.ok x2 H) (fun x5 H=>qc9 O (fun x2 H=>.ok x2 H) (fun H=>qei O (fun x3 H=>uH O (fun x2 H=>.ok x2 H) (fun H=>uG O H) (G L 1) k2 x3 H) (G L 3) H) (G L 4) a x5 H) (G L 4) (G L 5) H) (qS (pT (E:=fun L H=>q3b O (fun x5 H=>qc9 O (fun x2 H=>.ok x2 H) (fun H=>qei O (fun x3 H=>uH O (fun x2 H=>.ok x2 H) (fun H=>uG O H) (G L 1) k2 x3 H) (G L 3) H) (G L 4) a x5 H) (G L 5) H) p7) (r8 (qS (qS (pT (E:=fun L H=>q28 O (fun x2 H=>.ok x2 H) (fun x5 H=>qc9 O (fun x2 H=>.ok x2 H) (fun H=>qei O (fun x3 H=>uH O (fun x2 H=>.ok x2 H) (fun H=>uG O H) (G L 1) k2 x3 H) (G L 3) H) (G L 4) a x5 H) (G L 5) (G L 6) H) (qS (pT (E:=fun L H=>q29 O (fun x2 H=>.ok x2 H) (fun x5 H=>qc9 O (fun x2 H=>.ok x2 H) (fun H=>qei O (fun x3 H=>uH O (fun x2 H=>.ok x2 H) (fun H=>uG O H) (G L 1) k2 x3 H) (G L 3) H) (G L 4) a x5 H) (G L 5) (G L 6) H) (qS (pT (E:=fun L H=>qhs O (fun x2 H=>.ok x2 H) (fun x5 H=>qc9 O (fun x2 H=>.ok x2 H) (fun H=>qei O (fun x3 H=>uH O (fun x2 H=>.ok x2 H) (fun H=>uG O H) (G L 1) k2 x3 H) (G L 3) H) (G L 4) a x5 H) (G L 5) (G L 6) H) p7) (qS (r8 (pT (E:=fun L H=>q3e O (fun x2 H=>.ok x2 H) (fun H=>qhs O (fun x2 H=>.ok x2 H) (fun x5 H=>qc9 O (fun x2 H=>.ok x2 H) (fun H=>qei O (fun x3 H=>uH O (fun x2 H=>.ok x2 H) (fun H=>uG O H) (G L 1) k2 x3 H) (G L 3) H) (G L 4) a x5 H) (G L 5) (G L 6) H) (G L 6) (G L 7) H) (pS (D:=fun b L H=>qj2 O (fun x2 H=>.ok x2 H) (fun H=>qhs O (fun x2 H=>.ok x2 H) (fun x5 H=>qc9 O (fun x2 H=>.ok x2 H) (fun H=>qei O (fun x3 H=>uH O (fun x2 H=>.ok x2 H) (fun H=>uG O H) (G L 1) k2 x3 H) (G L 3) H) (G L 4) a x5 H) (G L 5) (G L 6) H) (G L 6) b (G L 7) H) (fun b=>pT (qS (pT (E:=fun L H=>q3a O (fun x2 H=>.ok x2 H) (fun x7 H=>qj2 O (fun x2 H=>.ok x2 H) (fun H=>qhs O (fun x2 H=>.ok x2 H) (fun x5 H=>qc9 O (fun x2 H=>.ok x2 H) (fun H=>qei O (fun x3 H=>uH O (fun x2 H=>.ok x2 H) (fun H=>uG O H) (G L 1) k2 x3 H) (G L 3) H) (G L 4) a x5 H) (G L 5) (G L 6) H) (G L 6) b x7 H) (G L 6) (G L 7) H) (qS (pT (E:=fun L H=>quk O (fun x7 H=>qj2 O (fun x2 H=>.ok x2 H) (fun H=>qhs O (fun x2 H=>.ok x2 H) (fun x5 H=>qc9 O (fun x2 H=>.ok x2 H) (fun H=>qei O (fun x3 H=>uH O (fun x2 H=>.ok x2 H) (fun H=>uG O H) (G L 1) k2 x3 H) (G L 3) H) (G L 4) a x5 H) (G L 5) (G L 6) H) (G L 6) b x7 H) (G L 7) H) p7) p7)) p7))) (fun _ _=>by kernel_rfl))) p7))) p7)) p7) p7)))) p7))) (fun _ _=>by kernel_rfl))) p7)) p7)) p7) p7)))) p7))) (fun _ _=>by kernel_rfl))) p7))) p7) p7))
theorem zo9:(aP Tryz.prog 80).f O [x0,x1] H=zGn O x0 x1 H:=
 r7 Tryz.func80 (D:=fun L H=>zyl O (G L 0) (G L 1) H)
 (pT (qS (qS (qS (pT (E:=fun L H=>qhp O (G L 1) (G L 2) (G L 4) (G L 5) H) (qS (qS (pT (E:=fun L H=>qf0 O (G L 4) (G L 5) H) p7) (qS (r8 (pT (E:=fun L H=>zea O (fun H=>qf0 O (G L 4) (G L 5) H) (G L 2) (G L 5) (G L 7) H) (pS (D:=fun c L H=>qhe O (fun H=>qf0 O (G L 4) (G L 5) H) (G L 2) (G L 5) c (G L 7) H) (fun c=>pT (qS (pT (E:=fun L H=>q12 O (fun x7 H=>qhe O (fun H=>qf0 O (G L 4) (G L 5) H) (G L 2) (G L 5) c x7 H) (G L 2) (G L 5) (G L 7) H) (qS (pT (E:=fun L H=>qhq O (fun x7 H=>qhe O (fun H=>qf0 O (G L 4) (G L 5) H) (G L 2) (G L 5) c x7 H) (G L 7) H) p7) (r8 (qS (r8 (pT (E:=fun L H=>q19 O (fun x7 H=>qhq O (fun x7 H=>qhe O (fun H=>qf0 O (G L 4) (G L 5) H) (G L 2) (G L 5) c x7 H) x7 H) (G L 5) (G L 27) (G L 28) (G L 7) (G L 29) H) (pS (D:=fun a L H=>qjy O (fun x7 H=>qhq O (fun x7 H=>qhe O (fun H=>qf0 O (G L 4) (G L 5) H) (G L 2) (G L 5) c x7 H) x7 H) (G L 5) (G L 27) (G L 28) a (G L 7) (G L 29) H) (fun a=>pT (qS (qS (pT (E:=fun L H=>q13 O (fun x7 d H=>qjy O (fun x7 H=>qhq O (fun x7 H=>qhe O (fun H=>qf0 O (G L 4) (G L 5) H) (G L 2) (G L 5) c x7 H) x7 H) (G L 5) (G L 27) (G L 28) a x7 d H) (G L 5) (G L 7) (G L 27) (G L 29) H) (qS (pT (E:=fun L H=>qjz O (fun x7 d H=>qjy O (fun x7 H=>qhq O (fun x7 H=>qhe O (fun H=>qf0 O (G L 4) (G L 5) H) (G L 2) (G L 5) c x7 H) x7 H) (G L 5) (G L 27) (G L 28) a x7 d H) (G L 7) (G L 29) H) p7) p7)) p7) p7))) (fun _ _=>by kernel_rfl))) p7)))) p7))) (fun _ _=>by kernel_rfl))) p7)) p7)) (qS (r8 (pT (E:=fun L H=>q18 O (fun H=>qhp O (G L 1) (G L 2) (G L 4) (G L 5) H) (G L 5) (G L 10) H) (pS (D:=fun b L H=>qjx O (fun H=>qhp O (G L 1) (G L 2) (G L 4) (G L 5) H) (G L 5) b (G L 10) H) (fun b=>pT (qS (qS (pT (E:=fun L H=>q10 O (fun e H=>qjx O (fun H=>qhp O (G L 1) (G L 2) (G L 4) (G L 5) H) (G L 5) b e H) (G L 5) (G L 10) H) (qS (pT (E:=fun L H=>q11 O (fun e H=>qjx O (fun H=>qhp O (G L 1) (G L 2) (G L 4) (G L 5) H) (G L 5) b e H) (G L 10) H) p7) p7)) p7) p7))) (fun _ _=>by kernel_rfl))) p7)) p7) p7))
def zh4(O:Ev.Call)(k11:Nat)(L:TT AV (iF (Tryz.f23.ntmps+1))):=fun tY H=>qke O (fun H=>q8j O (G L 8) H) (G L 1) (G L 4) (G L 8) (G L 39) (G L 40) k11 tY H
theorem zrs:(aP Tryz.prog 23).f O [x0] H=zAu O x0 H:=
 r7 Tryz.func23 (D:=fun L H=>z0l O (G L 0) H)
 (pT (qS (qS (qS (pL qr3 (fun x L H=>x O (G L 1) (G L 4) H) (pT (qS (pL qr4 (fun x L H=>x O (G L 1) (G L 4) H) (pT (qS (qS (pL qkf (fun x L H=>x O (G L 1) (G L 4) (G L 8) H) (pT (qS p7 (qS (r8 (pS (D:=fun a L H=>qke O (fun H=>q8j O (G L 8) H) (G L 1) (G L 4) (G L 8) (G L 39) (G L 40) a (G L 41) H) (fun a=>pT (qS (qS (qS p7 (r8 (qS (qS (qS (qS (r8 (pS (D:=fun c L H=>qvj O (fun H=>q5b O (zh4 O a L) (G L 41) H) (G L 8) (G L 11) (G L 83) (G L 84) c (G L 85) H) (fun c=>pT p7))) p7) (qS (r8 (pS (D:=fun b L H=>qkd O (fun d H=>qvn O (zh4 O a L) (G L 8) (G L 10) d (G L 41) H) (G L 4) (G L 8) (G L 9) (G L 47) (G L 48) b (G L 11) (G L 49) H) (fun b=>pT (qS (qS (pL qr5 (fun x L H=>x O (fun d e H=>qkd O (fun d H=>qvn O (zh4 O a L) (G L 8) (G L 10) d (G L 41) H) (G L 4) (G L 8) (G L 9) (G L 47) (G L 48) b d e H) (G L 4) (G L 8) (G L 9) (G L 11) (G L 47) (G L 49) H) (pT p7)) p7) p7)))) p7)) p7) p7))) p7) p7)))) p7)))) p7) p7))) p7))) p7) p7) p7))
theorem zp8:(aP Tryz.prog 114).f O [x0,x1,x2,x3] H=zCw O x0 x1 x2 x3 H:=
 r7 Tryz.func114 (D:=fun L H=>zzh O (G L 0) (G L 1) (G L 2) (G L 3) H)
 (pT (qS (qS (r8 (pS (D:=fun c L H=>qrz O (fun H=>.ok (.aX []) H) (fun H=>.ok (.aX []) H) (G L 0) (G L 1) (G L 2) (G L 3) (G L 5) (G L 16) c (G L 17) H) (fun c=>pT (qS (qS (qS (p7) (r8 (qS (qS (qS (r8 (pS (D:=fun a L H=>qns O (fun H=>.ok (.aX []) H) (fun H=>q74 O (fun d H=>qrz O (fun H=>.ok (.aX []) H) (fun H=>.ok (.aX []) H) (G L 0) (G L 1) (G L 2) (G L 3) (G L 5) (G L 16) c d H) (G L 17) H) (G L 0) (G L 1) (G L 5) (G L 6) (G L 54) a (G L 55) H) (fun a=>pT (qS (qS (qS (p7) (r8 (qS (qS (pA (qS (qS p7 p7) p7) p7) p7) p7))) p7) p7)))) p7) (qS (r8 (pS (D:=fun b L H=>qnr O (fun H=>q38 O (fun H=>.ok (.aX []) H) (fun d H=>qrz O (fun H=>.ok (.aX []) H) (fun H=>.ok (.aX []) H) (G L 0) (G L 1) (G L 2) (G L 3) (G L 5) (G L 16) c d H) (G L 0) (G L 1) (G L 5) (G L 6) (G L 17) H) (G L 3) (G L 5) (G L 6) (G L 23) (G L 24) b (G L 25) H) (fun b=>pT (qS (qS (qS (p7) p7) p7) p7)))) p7)) p7))) p7) p7)))) p7) p7))
theorem zr4:(aP Tryz.prog 9).f O [x0] H=zAg O x0 H:=
 r7 Tryz.func9 (D:=fun L H=>z0u O (G L 0) H)
 (pT (qS (qS (qS (p7) (qS (r8 (pS (D:=fun a L H=>qoa O (fun x2 x3 H=>.ok (.aX [x2,x3]) H) (fun H=>qyt O (G L 4) H) (G L 1) (G L 4) a (G L 5) H) (fun a=>pT (qS (r8 (qS (qS (r8 (pS (D:=fun b L H=>qys O (fun x2 x3 H=>.ok (.aX [x2,x3]) H) (fun x5 H=>qoa O (fun x2 x3 H=>.ok (.aX [x2,x3]) H) (fun H=>qyt O (G L 4) H) (G L 1) (G L 4) a x5 H) (G L 1) (G L 4) b (G L 5) (G L 6) H) (fun b=>pT (qS (qS (p7) (r8 (qS (r8 (pS (D:=fun c L H=>qr6 O (fun x2 x3 H=>.ok (.aX [x2,x3]) H) (fun x5 H=>ziy O (fun x5 x6 H=>qys O (fun x2 x3 H=>.ok (.aX [x2,x3]) H) (fun x5 H=>qoa O (fun x2 x3 H=>.ok (.aX [x2,x3]) H) (fun H=>qyt O (G L 4) H) (G L 1) (G L 4) a x5 H) (G L 1) (G L 4) b x5 x6 H) x5 (G L 6) H) (G L 1) (G L 4) (G L 6) c (G L 5) (G L 7) H) (fun c=>pT (qS (qS (p7) (r8 (qS (qS (qS (qS (p7) p7) p7) p7) p7))) p7)))) p7))) p7)))) p7) p7)) p7)))) p7)) p7) p7))
theorem zo6:(aP Tryz.prog 110).f O [x0,x1] H=zGp O x0 x1 H:=
 r7 Tryz.func110 (D:=fun L H=>zo7 O (G L 0) (G L 1) H)
 (pT (qS (qS (pT (E:=fun L H=>qt3 O (G L 1) (G L 2) H) (qS (qS (pT (E:=fun L H=>qlh O (G L 6) (G L 7) H) p7) (qS (r8 (pT (E:=fun L H=>q7x O (fun x6 x7 H=>qlh O x6 x7 H) (G L 1) (G L 2) (G L 6) (G L 7) (G L 8) H) (pS (D:=fun a L H=>q7w O (fun x6 x7 H=>qlh O x6 x7 H) (G L 1) (G L 2) a (G L 6) (G L 7) (G L 8) H) (fun a=>pT (qS (pT (E:=fun L H=>q1x O (fun x6 x7 b H=>q7w O (fun x6 x7 H=>qlh O x6 x7 H) (G L 1) (G L 2) a x6 x7 b H) (G L 1) (G L 2) (G L 6) (G L 7) (G L 8) H) (qS (pT (E:=fun L H=>zd5 O (fun x6 x7 b H=>q7w O (fun x6 x7 H=>qlh O x6 x7 H) (G L 1) (G L 2) a x6 x7 b H) (G L 6) (G L 7) (G L 8) H) p7) p7)) p7))) (fun _ _=>by kernel_rfl))) p7)) p7)) p7) p7))
theorem zo8:(aP Tryz.prog 81).f O [x0] H=zGo O x0 H:=
 r7 Tryz.func81 (D:=fun L H=>zyk O (G L 0) H)
 (pT (qS (r8 (pT (E:=fun L H=>zd8 O (fun H=>.ok (.aX []) H) (G L 0) (G L 2) (G L 3) H) (pS (D:=fun k2 L H=>qq1 O (fun H=>.ok (.aX []) H) (G L 0) k2 (G L 2) (G L 3) H) (fun k2=>pT (qS (pT (E:=fun L H=>q1y O (fun x2 x3 H=>qq1 O (fun H=>.ok (.aX []) H) (G L 0) k2 x2 x3 H) (G L 0) (G L 2) (G L 3) H) (qS (pT (E:=fun L H=>zd6 O (fun x2 x3 H=>qq1 O (fun H=>.ok (.aX []) H) (G L 0) k2 x2 x3 H) (G L 2) (G L 3) H) p7) p7)) p7))) (fun _ _=>by kernel_rfl))) p7))
theorem zqo:(aP Tryz.prog 75).f O [x0,x1] H=zCf O x0 x1 H:=
 r7 Tryz.func75 (D:=fun L H=>zzu O (G L 0) (G L 1) H)
 (pT (qS (qS (qS (qS p7 (qS (r8 (pS (D:=fun a L H=>qny O (fun H=>q8b O (G L 2) (G L 3) (G L 5) H) (G L 5) (G L 15) (G L 16) a (G L 17) H) (fun a=>pT (qS (qS (qS p7 (r8 (qS (qS (r8 (pS (D:=fun b L H=>qu2 O (fun H=>q4f O (fun c H=>qny O (fun H=>q8b O (G L 2) (G L 3) (G L 5) H) (G L 5) (G L 15) (G L 16) a c H) (G L 17) H) (G L 5) (G L 6) (G L 22) (G L 23) b (G L 24) H) (fun b=>pT p7))) p7) p7))) p7) p7)))) p7)) p7) p7) p7))
theorem zrw:(aP Tryz.prog 29).f O [x0,x1] H=zAr O x0 x1 H:=
 r7 Tryz.func29 (D:=fun L H=>z0o O (G L 0) (G L 1) H)
 (pT (qS (qS (qS (qS p7 (qS (pA (qS (qS p7 (qS (r8 (pS (D:=fun a L H=>qvw O (fun x7 H=>q5m O (G L 1) (G L 2) (G L 5) x7 H) (G L 1) (G L 2) a (G L 7) (G L 8) H) (fun a=>pT p7))) p7)) p7) p7) p7)) (qS (r8 (pS (D:=fun b L H=>qvv O (fun x5 H=>qvy O (G L 1) (G L 2) x5 H) (G L 1) (G L 2) b (G L 5) (G L 6) H) (fun b=>pT p7))) p7)) p7) p7))
theorem zqp:(aP Tryz.prog 76).f O [x0] H=zCe O x0 H:=
 r7 Tryz.func76 (D:=fun L H=>zzv O (G L 0) H)
 (pT (qS (qS (qS (qS p7 (qS (r8 (pS (D:=fun b L H=>q8c O (fun H=>zgb O (G L 3) H) (G L 3) (G L 29) b (G L 30) H) (fun b=>pT p7))) p7)) (qS (r8 (pS (D:=fun a L H=>qu3 O (fun H=>q4i O (G L 1) (G L 3) H) (G L 3) (G L 8) (G L 9) a (G L 10) H) (fun a=>pT p7))) p7)) p7) p7))
theorem zpm:(aP Tryz.prog 157).f O [x0,x1] H=zDs O x0 x1 H:=
 r7 Tryz.func157 (D:=fun L H=>zyz O (G L 0) (G L 1) H)
 (pT (qS (qS p7 (qS (r8 (pS (D:=fun k2 L H=>qye O (fun x4 H=>.ok x4 H) (fun H=>ze1 O H) (G L 0) (G L 1) (G L 7) k2 (G L 8) H) (fun k2=>pT p7))) p7)) p7))
theorem zp5:(aP Tryz.prog 97).f O [x0,x1,x2] H=zCz O x0 x1 x2 H:=
 r7 Tryz.func97 (D:=fun L H=>zze O (G L 0) (G L 1) (G L 2) H)
 (pT (qS (qS p7 (qS (r8 (pS (D:=fun k2 L H=>qyf O (fun x6 x7 H=>.ok (.aX [x6,x7]) H) (fun x6 H=>zv0 O x6 H) (G L 0) (G L 1) (G L 11) (G L 12) k2 (G L 6) (G L 13) H) (fun k2=>pT p7))) p7)) p7))
theorem zpv:(aP Tryz.prog 171).f O [x0,x1] H=zDj O x0 x1 H:=
 r7 Tryz.func171 (D:=fun L H=>zy6 O (G L 0) (G L 1) H)
 (pT (qS (qS p7 (qS (r8 (pS (D:=fun k2 L H=>q72 O (fun x4 H=>.ok x4 H) (fun H=>zvy O H) (G L 0) (G L 1) (G L 7) k2 (G L 8) H) (fun k2=>pT p7))) p7)) p7))
theorem zqm:(aP Tryz.prog 91).f O [x0] H=zCi O x0 H:=
 r7 Tryz.func91 (D:=fun L H=>zzs O (G L 0) H)
 (pT (qS (qS (qS p7 (qS (r8 (pS (D:=fun a L H=>q8a O (fun x2 H=>.ok x2 H) (fun H=>zf1 O (G L 1) H) (G L 16) (G L 17) a (G L 18) H) (fun a=>pT p7))) p7)) p7) p7))
theorem zqq:(aP Tryz.prog 74).f O [x0] H=zCd O x0 H:=
 r7 Tryz.func74 (D:=fun L H=>zzw O (G L 0) H)
 (pT (qS (qS (qS p7 (qS (r8 (pS (D:=fun a L H=>q8d O (fun x2 H=>.ok x2 H) (fun H=>zwi O H) (G L 1) (G L 14) (G L 15) a (G L 16) H) (fun a=>pT p7))) p7)) p7) p7))
theorem zqh:(aP Tryz.prog 92).f O [x0] H=zCn O x0 H:=
 r7 Tryz.func92 (D:=fun L H=>zzn O (G L 0) H)
 (pT (qS (qS p7 (qS (r8 (pS (D:=fun k2 L H=>q79 O (fun x2 H=>.ok x2 H) (fun H=>zwe O H) (G L 6) (G L 7) k2 (G L 8) H) (fun k2=>pT p7))) p7)) p7))
theorem zpq:(aP Tryz.prog 127).f O [x0,x1] H=zDo O x0 x1 H:=
 r7 Tryz.func127 (D:=fun L H=>zy2 O (G L 0) (G L 1) H)
 (pT p7)
theorem zqj:(aP Tryz.prog 96).f O [x0,x1,x2,x3] H=zCl O x0 x1 x2 x3 H:=
 r7 Tryz.func96 (D:=fun L H=>zzp O (G L 0) (G L 1) (G L 2) (G L 3) H)
 (pT p7)
theorem zqz:(aP Tryz.prog 63).f O [x0,x1,x2] H=zBv O x0 x1 x2 H:=
 r7 Tryz.func63 (D:=fun L H=>zz0 O (G L 0) (G L 1) (G L 2) H)
 (pT p7)
theorem zqv:(aP Tryz.prog 65).f O [x0,x1,x2] H=zBx O x0 x1 x2 H:=
 r7 Tryz.func65 (D:=fun L H=>zqw O (G L 0) (G L 1) (G L 2) H)
 (pT p7)
theorem zpr:(aP Tryz.prog 128).f O [x0,x1] H=zDn O x0 x1 H:=
 r7 Tryz.func128 (D:=fun L H=>zy3 O (G L 0) (G L 1) H)
 (pT p7)
theorem zpx:(aP Tryz.prog 126).f O [x0,x1] H=zDg O x0 x1 H:=
 r7 Tryz.func126 (D:=fun L H=>zy8 O (G L 0) (G L 1) H)
 (pT p7)
theorem zpn:(aP Tryz.prog 185).f O [x0] H=zDr O x0 H:=
 r7 Tryz.func185 (D:=fun L H=>z4n O (G L 0) H)
 (pT p7)
theorem zq8:(aP Tryz.prog 44).f O [x0] H=zBn O x0 H:=
 r7 Tryz.func44 (D:=fun L H=>z4x O (G L 0) H)
 (pT p7)
theorem zr1:(aP Tryz.prog 25).f O [x0] H=zAn O x0 H:=
 r7 Tryz.func25 (D:=fun L H=>z0r O (G L 0) H)
 (pT p7)
theorem zp3:(aP Tryz.prog 101).f O [x0] H=zDb O x0 H:=
 r7 Tryz.func101 (D:=fun L H=>zzc O (G L 0) H)
 (pT p7)
theorem zq4:(aP Tryz.prog 54).f O [x0] H=zBq O x0 H:=
 r7 Tryz.func54 (D:=fun L H=>zz4 O (G L 0) H)
 (pT p7)
theorem zrr:(aP Tryz.prog 33).f O [x0] H=zAx O x0 H:=
 r7 Tryz.func33 (D:=fun L H=>z0k O (G L 0) H)
 (pT p7)
def qsp(O:Ev.Call)(k5:Nat)(k8:Nat)(L:TT AV (iF (Tryz.f6.ntmps+1))):=fun x10 H=>qok O (fun H=>qom O (fun x8 H=>qkk O (fun H=>qsf O (G L 2) (G L 3) H) (G L 3) k5 x8 H) (G L 8) H) (G L 9) k8 x10 H
def qso(O:Ev.Call)(k61:Nat)(L:TT AV (iF (Tryz.f6.ntmps+1))):=fun x4 H=>qkj O (fun H=>qol O (G L 2) (G L 3) H) (G L 1) (G L 3) k61 x4 H
def qsn(O:Ev.Call)(k5:Nat)(L:TT AV (iF (Tryz.f6.ntmps+1))):=fun x8 H=>qkk O (fun H=>qsf O (G L 2) (G L 3) H) (G L 3) k5 x8 H
def zjm(O:Ev.Call)(k5:Nat)(k8:Nat)(L:TT AV (iF (Tryz.f6.ntmps+1))):=fun cO H=>q5v O (qsp O k5 k8 L) (G L 9) (G L 10) cO H
def zjl(O:Ev.Call)(k5:Nat)(k8:Nat)(k16:Nat)(L:TT AV (iF (Tryz.f6.ntmps+1))):=fun cO bI H=>qoj O (zjm O k5 k8 L) (G L 9) (G L 10) k16 cO bI H
theorem zr7:(aP Tryz.prog 6).f O [x0] H=zAc O x0 H:=
 r7 Tryz.func6 (D:=fun L H=>z0x O (G L 0) H)
 (pT (qS (qS (pL qog (fun x L H=>x O (G L 1) (G L 2) (G L 3) H) (pT (qS (pL qsh (fun x L H=>x O (G L 2) (G L 3) H) (pT (qS (pL qyw (fun x L H=>x O (G L 2) (G L 3) H) (pT p7)) (qS (r8 (pS (D:=fun a L H=>qkk O (fun H=>qsf O (G L 2) (G L 3) H) (G L 3) a (G L 8) H) (fun a=>pT (qS (pL qsi (fun x L H=>x O (qsn O a L) (G L 3) (G L 8) H) (pT (qS (pL qsm (fun x L H=>x O (qsn O a L) (G L 8) H) (pT p7)) (r8 (qS (pL qsa (fun x L H=>x O (qsn O a L) (G L 8) (G L 9) H) (pT (qS (r8 (pS (D:=fun c L H=>qok O (fun H=>qom O (qsn O a L) (G L 8) H) (G L 9) c (G L 10) H) (fun c=>pT (qS (pL qsj (fun x L H=>x O (qsp O a c L) (G L 9) (G L 10) H) (pT (qS (pL qkn (fun x L H=>x O (qsp O a c L) (G L 10) H) (pT p7)) (r8 (qS (pL qsc (fun x L H=>x O (qsp O a c L) (G L 9) (G L 10) (G L 11) H) (pT (qS (pL qsl (fun x L H=>x O (qsp O a c L) (G L 9) (G L 10) (G L 11) H) (pT p7)) (qS (r8 (pS (D:=fun d L H=>qoj O (zjm O a c L) (G L 9) (G L 10) d (G L 11) (G L 12) H) (fun d=>pT (qS (pL qsk (fun x L H=>x O (zjl O a c d L) (G L 9) (G L 10) (G L 11) (G L 12) H) (pT (qS (pL qkm (fun x L H=>x O (zjl O a c d L) (G L 11) (G L 12) H) (pT p7)) p7))) (qS (pL qsd (fun x L H=>x O (zjl O a c d L) (zjm O a c L) (G L 9) (G L 10) (G L 11) (G L 12) (G L 90) H) (pT p7)) p7))))) p7)))) p7))))) (qS (pL qsb (fun x L H=>x O (qsp O a c L) (fun H=>qom O (qsn O a L) (G L 8) H) (G L 9) (G L 10) (G L 78) H) (pT p7)) p7))))) p7))) p7))))) (qS (pL qr9 (fun x L H=>x O (qsn O a L) (fun H=>qsf O (G L 2) (G L 3) H) (G L 3) (G L 8) (G L 66) H) (pT p7)) p7))))) p7)))) (qS (r8 (pS (D:=fun b L H=>qkj O (fun H=>qol O (G L 2) (G L 3) H) (G L 1) (G L 3) b (G L 4) H) (fun b=>pT (qS (pL qh1 (fun x L H=>x O (qso O b L) (G L 1) (G L 3) (G L 4) H) (pT (qS (pL qsg (fun x L H=>x O (qso O b L) (G L 4) H) (pT p7)) (r8 (qS (pL qse (fun x L H=>x O (qso O b L) (G L 1) (G L 3) (G L 4) H) (pT (qS (pL qr7 (fun x L H=>x O (qso O b L) (G L 1) (G L 3) (G L 4) (G L 5) H) (pT (qS (pL qr8 (fun x L H=>x O (qso O b L) (G L 1) (G L 4) (G L 5) (G L 7) H) (pT p7)) p7))) p7))) p7))))) (qS (pL qoi (fun x L H=>x O (qso O b L) (fun H=>qol O (G L 2) (G L 3) H) (G L 1) (G L 3) (G L 4) (G L 19) H) (pT p7)) p7))))) p7)))) p7) p7))
theorem zpk:(aP Tryz.prog 19).f O [x0] H=zGb O x0 H:=
 r7 Tryz.func19 (D:=fun L H=>zyw O (G L 0) H)
 (pT (qS (qS (qS (pT (E:=fun L H=>q3i O (G L 1) H) (qS (pT (E:=fun L H=>qht O (G L 1) H) (qS (pT (E:=fun L H=>qhh O H) p7) (qS (r8 (pT (E:=fun L H=>zey O (fun x2 H=>.ok x2 H) (fun H=>qhh O H) (G L 1) (G L 5) H) (pS (D:=fun b L H=>qhg O (fun x2 H=>.ok x2 H) (fun H=>qhh O H) (G L 1) b (G L 5) H) (fun b=>pT (qS (pT (E:=fun L H=>q3l O (fun x2 H=>.ok x2 H) (fun x5 H=>qhg O (fun x2 H=>.ok x2 H) (fun H=>qhh O H) (G L 1) b x5 H) (G L 1) (G L 5) H) (qS (pT (E:=fun L H=>qnm O (fun x5 H=>qhg O (fun x2 H=>.ok x2 H) (fun H=>qhh O H) (G L 1) b x5 H) (G L 5) H) p7) (r8 (qS (r8 (pT (E:=fun L H=>zex O (fun x2 H=>.ok x2 H) (fun H=>qnm O (fun x5 H=>qhg O (fun x2 H=>.ok x2 H) (fun H=>qhh O H) (G L 1) b x5 H) (G L 5) H) (G L 1) (G L 5) (G L 6) H) (pS (D:=fun c L H=>qrm O (fun x2 H=>.ok x2 H) (fun H=>qnm O (fun x5 H=>qhg O (fun x2 H=>.ok x2 H) (fun H=>qhh O H) (G L 1) b x5 H) (G L 5) H) (G L 1) (G L 5) c (G L 6) H) (fun c=>pT (qS (pT (E:=fun L H=>q3m O (fun x2 H=>.ok x2 H) (fun x6 H=>qrm O (fun x2 H=>.ok x2 H) (fun H=>qnm O (fun x5 H=>qhg O (fun x2 H=>.ok x2 H) (fun H=>qhh O H) (G L 1) b x5 H) (G L 5) H) (G L 1) (G L 5) c x6 H) (G L 1) (G L 5) (G L 6) H) (qS (pT (E:=fun L H=>zeu O (fun x6 H=>qrm O (fun x2 H=>.ok x2 H) (fun H=>qnm O (fun x5 H=>qhg O (fun x2 H=>.ok x2 H) (fun H=>qhh O H) (G L 1) b x5 H) (G L 5) H) (G L 1) (G L 5) c x6 H) (G L 6) H) p7) p7)) p7))) (fun _ _=>by kernel_rfl))) p7)))) p7))) (fun _ _=>by kernel_rfl))) p7))) (qS (r8 (pT (E:=fun L H=>q3o O (fun x2 H=>.ok x2 H) (fun H=>qht O (G L 1) H) (G L 1) (G L 4) H) (pS (D:=fun a L H=>qj3 O (fun x2 H=>.ok x2 H) (fun H=>qht O (G L 1) H) (G L 1) a (G L 4) H) (fun a=>pT (qS (pT (E:=fun L H=>q3j O (fun x2 H=>.ok x2 H) (fun x4 H=>qj3 O (fun x2 H=>.ok x2 H) (fun H=>qht O (G L 1) H) (G L 1) a x4 H) (G L 1) (G L 4) H) (qS (pT (E:=fun L H=>q3k O (fun x4 H=>qj3 O (fun x2 H=>.ok x2 H) (fun H=>qht O (G L 1) H) (G L 1) a x4 H) (G L 4) H) p7) p7)) p7))) (fun _ _=>by kernel_rfl))) p7))) p7) p7) p7))
theorem zpc:(aP Tryz.prog 73).f O [x0,x1] H=zGk O x0 x1 H:=
 r7 Tryz.func73 (D:=fun L H=>zyo O (G L 0) (G L 1) H)
 (pT (qS (qS (pT (E:=fun L H=>qf1 O H) p7) (qS (r8 (pT (E:=fun L H=>zei O (fun x4 H=>.ok x4 H) (fun H=>qf1 O H) (G L 1) (G L 2) (G L 5) H) (pS (D:=fun k2 L H=>qhf O (fun x4 H=>.ok x4 H) (fun H=>qf1 O H) (G L 1) (G L 2) k2 (G L 5) H) (fun k2=>pT (qS (pT (E:=fun L H=>q2a O (fun x4 H=>.ok x4 H) (fun x5 H=>qhf O (fun x4 H=>.ok x4 H) (fun H=>qf1 O H) (G L 1) (G L 2) k2 x5 H) (G L 1) (G L 2) (G L 5) H) (qS (pT (E:=fun L H=>qna O (fun x5 H=>qhf O (fun x4 H=>.ok x4 H) (fun H=>qf1 O H) (G L 1) (G L 2) k2 x5 H) (G L 5) H) p7) (r8 (qS (qS (r8 (pT (E:=fun L H=>q2d O (fun x4 H=>.ok x4 H) (fun H=>qna O (fun x5 H=>qhf O (fun x4 H=>.ok x4 H) (fun H=>qf1 O H) (G L 1) (G L 2) k2 x5 H) (G L 5) H) (G L 1) (G L 6) (G L 7) H) (pS (D:=fun a L H=>qhr O (fun x4 H=>.ok x4 H) (fun H=>qna O (fun x5 H=>qhf O (fun x4 H=>.ok x4 H) (fun H=>qf1 O H) (G L 1) (G L 2) k2 x5 H) (G L 5) H) (G L 1) (G L 6) a (G L 7) H) (fun a=>pT (qS (pT (E:=fun L H=>q2b O (fun x4 H=>.ok x4 H) (fun x7 H=>qhr O (fun x4 H=>.ok x4 H) (fun H=>qna O (fun x5 H=>qhf O (fun x4 H=>.ok x4 H) (fun H=>qf1 O H) (G L 1) (G L 2) k2 x5 H) (G L 5) H) (G L 1) (G L 6) a x7 H) (G L 1) (G L 6) (G L 7) H) (qS (pT (E:=fun L H=>qt4 O (fun x7 H=>qhr O (fun x4 H=>.ok x4 H) (fun H=>qna O (fun x5 H=>qhf O (fun x4 H=>.ok x4 H) (fun H=>qf1 O H) (G L 1) (G L 2) k2 x5 H) (G L 5) H) (G L 1) (G L 6) a x7 H) (G L 7) H) p7) p7)) p7))) (fun _ _=>by kernel_rfl))) p7) p7)))) p7))) (fun _ _=>by kernel_rfl))) p7)) p7))
def zxa(O:Ev.Call)(k11:Nat)(L:TT AV (iF (Tryz.f10.ntmps+1))):=fun H=>q5p O (fun x5 H=>qoe O (fun H=>qv2 O (G L 2) (G L 4) H) (G L 1) (G L 3) (G L 4) k11 x5 H) (G L 5) H
def zw9(O:Ev.Call)(k11:Nat)(k36:Nat)(L:TT AV (iF (Tryz.f10.ntmps+1))):=fun H=>qh0 O (fun x9 H=>qki O (zxa O k11 L) (G L 1) (G L 3) (G L 4) (G L 5) (G L 6) (G L 8) k36 x9 H) (G L 9) H
theorem zr5:(aP Tryz.prog 10).f O [x0] H=zAf O x0 H:=
 r7 Tryz.func10 (D:=fun L H=>z0v O (G L 0) H)
 (pT (qS (qS (qS (qS p7 (qS (r8 (pS (D:=fun a L H=>qoe O (fun H=>qv2 O (G L 2) (G L 4) H) (G L 1) (G L 3) (G L 4) a (G L 5) H) (fun a=>pT (qS (qS p7 (r8 (qS (qS (qS (r8 (pS (D:=fun b L H=>qki O (zxa O a L) (G L 1) (G L 3) (G L 4) (G L 5) (G L 6) (G L 8) b (G L 9) H) (fun b=>pT (qS (qS p7 (r8 (qS (r8 (qS (pA (qS (r8 (pS (D:=fun c L H=>qv0 O (zw9 O a b L) (G L 1) (G L 4) (G L 5) (G L 6) (G L 8) (G L 9) c (G L 10) H) (fun c=>pT p7))) p7) (qS (pA p7 (qS (pA (qS (qS (r8 (pS (D:=fun d L H=>qmp O (zw9 O a b L) (G L 1) (G L 4) (G L 5) (G L 8) (G L 9) (G L 11) d (G L 12) H) (fun d=>pT p7))) p7) p7) p7) p7)) p7)) p7)) p7))) p7)))) p7) p7) p7))) p7)))) p7)) p7) p7) p7))
def zwq(O:Ev.Call)(k16:Nat)(L:TT AV (iF (Tryz.f58.ntmps+1))):=fun x9 H=>q42 O (fun x9 x10 H=>qn4 O (fun x9 H=>qvb O (G L 2) (G L 3) (G L 8) x9 H) (G L 1) (G L 3) (G L 4) k16 x9 x10 H) x9 (G L 10) H
theorem zrg:(aP Tryz.prog 58).f O [x0,x1,x2,x3] H=zBg O x0 x1 x2 x3 H:=
 r7 Tryz.func58 (D:=fun L H=>z0c O (G L 0) (G L 1) (G L 2) (G L 3) H)
 (pT (qS (qS (qS p7 (qS (r8 (pS (D:=fun a L H=>qn4 O (fun c H=>qvb O (G L 2) (G L 3) (G L 8) c H) (G L 1) (G L 3) (G L 4) a (G L 9) (G L 10) H) (fun a=>pT (qS (qS p7 (r8 (qS (qS (r8 (pS (D:=fun b L H=>qn3 O (zwq O a L) (G L 1) (G L 3) (G L 4) (G L 10) (G L 11) b (G L 9) (G L 12) H) (fun b=>pT (qS (qS p7 (r8 (qS (r8 (pS (D:=fun d L H=>qva O (fun c H=>q41 O (fun c e H=>qn3 O (zwq O a L) (G L 1) (G L 3) (G L 4) (G L 10) (G L 11) b c e H) c (G L 12) H) (G L 1) (G L 3) (G L 4) (G L 10) (G L 11) (G L 12) d (G L 9) (G L 13) H) (fun d=>pT p7))) p7))) p7)))) p7) p7))) p7)))) p7)) p7) p7))
theorem zpe:(aP Tryz.prog 51).f O [x0,x1,x2] H=zGh O x0 x1 x2 H:=
 r7 Tryz.func51 (D:=fun L H=>zyq O (G L 0) (G L 1) (G L 2) H)
 (pT (qS (qS (pT (E:=fun L H=>qt5 O (G L 1) (G L 2) (G L 3) H) (qS (qS (pT (E:=fun L H=>q2f O (G L 1) (G L 2) (G L 9) H) (qS (qS (pT (E:=fun L H=>qq3 O (G L 10) H) p7) (qS (r8 (pT (E:=fun L H=>zel O (fun a H=>qq3 O a H) (G L 1) (G L 9) (G L 10) (G L 11) H) (pS (D:=fun b L H=>qyc O (fun a H=>qq3 O a H) (G L 1) (G L 9) b (G L 10) (G L 11) H) (fun b=>pT (qS (pT (E:=fun L H=>q2g O (fun a c H=>qyc O (fun a H=>qq3 O a H) (G L 1) (G L 9) b a c H) (G L 9) (G L 10) (G L 11) H) p7) p7))) (fun _ _=>by kernel_rfl))) p7)) p7)) p7) p7)) p7) p7))
theorem zrc:(aP Tryz.prog 40).f O [x0] H=zBj O x0 H:=
 r7 Tryz.func40 (D:=fun L H=>zrd O (G L 0) H)
 (pT (qS (qS (qS (qS (qS (qS p7 (qS (r8 (pS (D:=fun b L H=>qyn O (fun x2 H=>.ok x2 H) (fun H=>q8g O H) (G L 4) (G L 26) (G L 27) b (G L 5) (G L 28) H) (fun b=>pT (qS (qS (qS p7 (r8 (qS (qS (r8 (pS (D:=fun a L H=>qu9 O (fun x2 H=>.ok x2 H) (fun x5 H=>q4y O (fun x5 c H=>qyn O (fun x2 H=>.ok x2 H) (fun H=>q8g O H) (G L 4) (G L 26) (G L 27) b x5 c H) x5 (G L 28) H) (G L 4) (G L 7) (G L 34) a (G L 5) (G L 35) H) (fun a=>pT p7))) p7) p7))) p7) p7)))) p7)) p7) p7) p7) p7) p7))
theorem zq0:(aP Tryz.prog 62).f O [x0] H=zBu O x0 H:=
 r7 Tryz.func62 (D:=fun L H=>zz1 O (G L 0) H)
 (pT (qS (qS (qS p7 (qS (r8 (pS (D:=fun b L H=>qym O (fun x2 H=>.ok x2 H) (fun H=>zgv O H) (G L 13) (G L 14) b (G L 15) H) (fun b=>pT (qS (qS (qS p7 (r8 (qS (qS (qS (r8 (pS (D:=fun a L H=>qu5 O (fun x2 H=>.ok x2 H) (fun H=>zgp O (fun c H=>qym O (fun x2 H=>.ok x2 H) (fun H=>zgv O H) (G L 13) (G L 14) b c H) (G L 15) H) (G L 30) (G L 31) a (G L 32) H) (fun a=>pT p7))) p7) p7) p7))) p7) p7)))) p7)) p7) p7))
theorem qqr:(aP Tryz.prog 83).f O [x0] H=jU O x0 H:=
 r7 Tryz.func83 (D:=fun L H=>qic O (G L 0) H)
 (pT (qS (qS (qS p7 (qS (r8 (pS (D:=fun b L H=>qej O (fun x2 H=>.ok x2 H) (fun H=>qf7 O (G L 0) H) (G L 0) b (G L 3) H) (fun b=>pT (qS (qS p7 (r8 (qS (pA (qS (qS p7 (qS (r8 (pS (D:=fun a L H=>qdx O (fun x3 H=>qfi O (fun x2 H=>.ok x2 H) (G L 0) x3 H) (G L 0) (G L 4) a (G L 3) (G L 5) H) (fun a=>pT p7))) p7)) p7) p7) p7))) p7)))) p7)) p7) p7))
theorem zqg:(aP Tryz.prog 100).f O [x0,x1,x2,x3,x4,x5,x6] H=zCo O x0 x1 x2 x3 x4 x5 x6 H:=
 r7 Tryz.func100 (D:=fun L H=>zbw O (G L 0) (G L 1) (G L 2) (G L 3) (G L 4) (G L 5) (G L 6) H)
 (pT (qS (qS (qS (qS (qS (qS (qS (qS p7 (qS (r8 (pS (D:=fun a L H=>qu0 O (fun b H=>.ok b H) (fun c H=>qnu O (G L 3) (G L 11) c H) (G L 0) (G L 1) (G L 2) (G L 3) (G L 6) (G L 51) a (G L 12) (G L 52) H) (fun a=>pT p7))) p7)) p7) p7) p7) p7) p7) p7) p7))
theorem zq5:(aP Tryz.prog 53).f O [x0] H=zBp O x0 H:=
 r7 Tryz.func53 (D:=fun L H=>zz5 O (G L 0) H)
 (pT (qS (qS (qS (pL qr1 (fun x L H=>x O (G L 1) (G L 4) H) (pT (qS (qS p7 (qS (r8 (pS (D:=fun a L H=>qu7 O (fun x6 H=>zg8 O x6 H) (G L 4) (G L 18) (G L 19) a (G L 6) (G L 20) H) (fun a=>pT p7))) p7)) p7))) p7) p7) p7))
theorem zo3:(aP Tryz.prog 141).f O [x0] H=zGr O x0 H:=
 r7 Tryz.func141 (D:=fun L H=>zyj O (G L 0) H)
 (pT (qS (qS (pT (E:=fun L H=>qjv O (G L 1) H) (qS (qS (qS (pT (E:=fun L H=>qjw O (G L 1) (G L 3) (G L 4) H) (qS (pT (E:=fun L H=>zd3 O H) p7) p7)) p7) p7) p7)) p7) p7))
theorem zro:(aP Tryz.prog 35).f O [x0,x1,x2] H=zAz O x0 x1 x2 H:=
 r7 Tryz.func35 (D:=fun L H=>zrp O (G L 0) (G L 1) (G L 2) H)
 (pT (qS (qS (qS (qS (qS p7 (qS (r8 (pS (D:=fun a L H=>qvg O (fun x0 b H=>qvi O x0 (G L 7) b H) (G L 2) (G L 4) a (G L 0) (G L 8) (G L 9) H) (fun a=>pT p7))) p7)) p7) p7) p7) p7))
theorem zrv:(aP Tryz.prog 30).f O [x0,x1,x2] H=zAs O x0 x1 x2 H:=
 r7 Tryz.func30 (D:=fun L H=>z0m O (G L 0) (G L 1) (G L 2) H)
 (pT (qS (qS (qS p7 (qS (r8 (pS (D:=fun a L H=>q8v O (fun x6 H=>.ok x6 H) (fun H=>zif O H) (G L 1) (G L 2) (G L 7) a (G L 8) H) (fun a=>pT p7))) p7)) p7) p7))
theorem zrl:(aP Tryz.prog 38).f O [x0] H=zBc O x0 H:=
 r7 Tryz.func38 (D:=fun L H=>z0g O (G L 0) H)
 (pT (qS (qS (qS p7 (qS (r8 (pS (D:=fun k2 L H=>q8h O (fun x3 H=>zwu O x3 H) (G L 6) (G L 7) k2 (G L 3) (G L 8) H) (fun k2=>pT p7))) p7)) p7) p7))
theorem zpb:(aP Tryz.prog 79).f O [x0,x1] H=zGl O x0 x1 H:=
 r7 Tryz.func79 (D:=fun L H=>zyn O (G L 0) (G L 1) H)
 (pT (qS (qS (pT (E:=fun L H=>zef O (G L 1) (G L 2) H) (qS (pT (E:=fun L H=>zeg O H) p7) p7)) p7) p7))
theorem zpw:(aP Tryz.prog 125).f O [x0,x1] H=zDh O x0 x1 H:=
 r7 Tryz.func125 (D:=fun L H=>zy7 O (G L 0) (G L 1) H)
 (pT p7)
theorem zqr:(aP Tryz.prog 69).f O [x0] H=zCc O x0 H:=
 r7 Tryz.func69 (D:=fun L H=>zzx O (G L 0) H)
 (pT p7)
theorem zqi:(aP Tryz.prog 98).f O [x0,x1,x2] H=zCm O x0 x1 x2 H:=
 r7 Tryz.func98 (D:=fun L H=>zzo O (G L 0) (G L 1) (G L 2) H)
 (pT p7)
theorem zqe:(aP Tryz.prog 103).f O [x0] H=zCq O x0 H:=
 r7 Tryz.func103 (D:=fun L H=>zzl O (G L 0) H)
 (pT p7)
theorem zpu:(aP Tryz.prog 173).f O [x0] H=zDk O x0 H:=
 r7 Tryz.func173 (D:=fun L H=>zy5 O (G L 0) H)
 (pT p7)
theorem zqd:(aP Tryz.prog 105).f O [x0,x1] H=zCr O x0 x1 H:=
 r7 Tryz.func105 (D:=fun L H=>zzk O (G L 0) (G L 1) H)
 (pT p7)
theorem zqt:(aP Tryz.prog 67).f O [x0,x1] H=zBz O x0 x1 H:=
 r7 Tryz.func67 (D:=fun L H=>zzy O (G L 0) (G L 1) H)
 (pT p7)
theorem zpt:(aP Tryz.prog 172).f O [x0] H=zDl O x0 H:=
 r7 Tryz.func172 (D:=fun L H=>z4o O (G L 0) H)
 (pT p7)
theorem zqc:(aP Tryz.prog 106).f O [x0] H=zCs O x0 H:=
 r7 Tryz.func106 (D:=fun L H=>zzj O (G L 0) H)
 (pT p7)
theorem zr0:(aP Tryz.prog 26).f O [x0] H=zAo O x0 H:=
 r7 Tryz.func26 (D:=fun L H=>z0q O (G L 0) H)
 (pT p7)
theorem zqx:(aP Tryz.prog 64).f O [x0] H=zBw O x0 H:=
 r7 Tryz.func64 (D:=fun L H=>zqy O (G L 0) H)
 (pT p7)
end Go.Di
end
noncomputable section
namespace Go.Di
open Go.Ev Go.Proofs
set_option maxRecDepth 100000
theorem p5{P:Program}{d n:Nat}{O:Ev.Call}{K:Kt d}{f:Operand}{c:Array Tmp}{a b:Code}(g:(kG a&&kG b)=true):Lk P d n O (.rangeFunc f c a b) K (fun L H=>fin (endLoop H.nx (qjo O ((aH d n f).f L) [.yield H.nx] (aN H (.loop true none d n L c.toList a b))) L) K):=fun L H=>by
 have e:den P d n (.rangeFunc f c a b)=⟨fun O L H=>endLoop H.nx (qjo O ((aH d n f).f L) [.yield H.nx] (aN H (.loop true none d n L c.toList a b))) L⟩:=by simp only[den,g]
 rw[e]
def qo3(n:Nat):Code->LP
 | .seq a b=>match qo3 n a with
  |⟨0,_,_,_⟩=>qo3 n b
  |p=>p
 | .block _ b=>qo3 n b
 | .rangeFunc _ ps sa bd=>⟨n,ps.toList,sa,bd⟩
 |_=>⟨0,[],.skip,.skip⟩
def LAc:LP:=qo3 13 (codeOf Tryz.f190)
def LOc:LP:=qo3 53 (codeOf Tryz.f48)
theorem qqz(O:Ev.Call)(x0 x1:AV)(H:Hp):(aP Tryz.prog 190).f O [x0,x1] H=jR LAc O x0 x1 H:=
 r7 Tryz.func190 (D:=fun L H=>qih LAc O L (G L 0) (G L 1) H)
 (pT (qS (qS (pT (E:=fun L H=>qgl O (G L 2) H) p7) (qS (r8 (pT (E:=fun L H=>qig LAc O L (G L 6) H) (p5 (by kernel_rfl)))) p7)) p7))
theorem zq7(O:Ev.Call)(x0:AV)(H:Hp):(aP Tryz.prog 48).f O [x0] H=zBo LOc O x0 H:=
 r7 Tryz.func48 (D:=fun L H=>zz6 LOc O L (G L 0) H)
 (pT (qS (qS (pT (E:=fun L H=>q4s LOc O L (G L 1) (G L 2) H) (qS (qS (pT (E:=fun L H=>qn2 LOc O L (G L 1) H) (qS (pT (E:=fun L H=>q4v O (G L 2) (G L 5) H) p7) (qS (r8 (pT (E:=fun L H=>zq6 LOc O L (G L 25) H) (p5 (by kernel_rfl)))) p7))) p7) p7)) p7) p7))
theorem qyy{P:Program}{O:Ev.Call}{l:Nat}{v:AV}{H:Hp}{L L1:TT AV 2}(p:LP)(h:H.get l=p.blk true L)(a:(Nat.beq p.ps.length 1&&p.ps.all fun q=>Nat.blt q p.n)=true)(b:(den P 2 p.n p.aC).f O (qfv ((setter 2 p.n).f L .undef) p.ps [v]) H=.ok .normal L1 H):qhi P O l [v] H=endRound l ((den P 2 p.n p.bd).f O L1 (H.put l (p.blk false L))):=by unfold qhi;have c:([v]:List AV).length=1:=rfl;simp only[h,LP.blk,c,a,uC,b]
theorem qls(l:Nat)(r:Rc 2):endRound l r=fin r (fun e L H=>endRound l (.ok e L H)):=by cases r<;>rfl
theorem qqm(O:Ev.Call)(L:TT AV 2)(l:Nat)(v:AV)(H:Hp)(h:H.get l=LAc.blk true L):qhi Tryz.prog O l [v] H=eG O l L (G L 2) v (H.put l (LAc.blk false L)):=by rw[qyy LAc h (by kernel_rfl) (L1:=(setter 2 5).f (qfv ((setter 2 13).f L .undef) [7] [v]) v) (by kernel_rfl),qls];exact(pT (c:=LAc.bd) (P:=Tryz.prog) (n:=13) (E:=fun M H=>eG O l L (G M 2) (G M 5) H) p7 (fun M H=>by kernel_rfl) _ _).trans (by kernel_rfl)
theorem zha(O:Ev.Call)(L:TT AV 2)(l:Nat)(v:AV)(H:Hp)(h:H.get l=LOc.blk true L):qhi Tryz.prog O l [v] H=tV O l L (G L 5) v (H.put l (LOc.blk false L)):=by
 rw[qyy LOc h (by kernel_rfl) (L1:=(setter 2 6).f (qfv ((setter 2 53).f L .undef) [26] [v]) v) (by kernel_rfl),qls];have d:Lk Tryz.prog 2 53 O LOc.bd (fun e L H=>endRound l (.ok e L H)) (fun M H=>tV O l L (G M 5) (G M 6) H):=
  pT (c:=LOc.bd) (r8 (qS (pT (E:=fun M H=>qhx O l L (G M 5) (G M 6) H) p7) (qS (r8 (pT (E:=fun M H=>q4x O (fun H=>qhx O l L (G M 5) (G M 6) H) (G M 5) (G M 27) (G M 28) (G M 29) H) (pS (D:=fun a M H=>qj9 O (fun H=>qhx O l L (G M 5) (G M 6) H) (G M 5) (G M 27) (G M 28) a (G M 29) H) (fun a=>pT (qS (qS (pT (E:=fun M H=>q4t O (fun b H=>qj9 O (fun H=>qhx O l L (G M 5) (G M 6) H) (G M 5) (G M 27) (G M 28) a b H) (G M 5) (G M 27) (G M 29) H) (qS (pT (E:=fun M H=>q4u O (fun b H=>qj9 O (fun H=>qhx O l L (G M 5) (G M 6) H) (G M 5) (G M 27) (G M 28) a b H) (G M 29) H) p7) p7)) p7) p7))) (fun _ _=>by kernel_rfl))) p7))) (fun M H=>by kernel_rfl)
 exact(d _ _).trans (by kernel_rfl)
end Go.Di
end
