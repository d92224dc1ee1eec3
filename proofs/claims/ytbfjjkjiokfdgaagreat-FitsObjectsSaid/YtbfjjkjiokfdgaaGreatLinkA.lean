/-
 For FitsObjects: the direct functions are what the evaluator computes, part 1. No conditions beyond those that each theorem states.
-/
import Derived.Test.YtbfjjkjiokfdgaaGreatConB
import Derived.Test.YtbfjjkjiokfdgaaGreatConC
import Derived.Test.YtbfjjkjiokfdgaaGreatProg
import Derived.KernelRfl
import Derived.Test.YtbfjjkjiokfdgaaGreatConH
import Derived.Test.YtbfjjkjiokfdgaaGreatConF
set_option linter.unusedSimpArgs false
set_option linter.unusedVariables false
open Nat renaming reduceAdd->rB,reduceMul->rI,reduceSub->rK,reduceLeDiff->rL,reduceEqDiff->rN,reduceShiftRight->rS,reduceAnd->r6
noncomputable section
namespace Go.Di
open Go.Ev Go.Proofs
set_option maxRecDepth 100000
variable (call:Ev.Call) (x0 x1 x2 x3 x4 x5 x6 x7:AV) (H:Hp)
def qpn(call:Ev.Call)(k5:Nat)(k8:Nat)(L:TT AV (iJ (Tryz.f24.ntmps+1))):=fun x10 H=>qly call (fun H=>ql0 call (fun x8 H=>qi2 call (fun H=>qpd call (G L 2) (G L 3) H) (G L 3) k5 x8 H) (G L 8) H) (G L 9) k8 x10 H
def qpm(call:Ev.Call)(k61:Nat)(L:TT AV (iJ (Tryz.f24.ntmps+1))):=fun x4 H=>qi1 call (fun H=>qlz call (G L 2) (G L 3) H) (G L 1) (G L 3) k61 x4 H
def qpl(call:Ev.Call)(k5:Nat)(L:TT AV (iJ (Tryz.f24.ntmps+1))):=fun x8 H=>qi2 call (fun H=>qpd call (G L 2) (G L 3) H) (G L 3) k5 x8 H
def zdz(call:Ev.Call)(k5:Nat)(k8:Nat)(L:TT AV (iJ (Tryz.f24.ntmps+1))):=fun dN H=>qz1 call (qpn call k5 k8 L) (G L 9) (G L 10) dN H
def zdy(call:Ev.Call)(k5:Nat)(k8:Nat)(k16:Nat)(L:TT AV (iJ (Tryz.f24.ntmps+1))):=fun dN bY H=>qlx call (zdz call k5 k8 L) (G L 9) (G L 10) k16 dN bY H
theorem zml:(aP Tryz.prog 24).f call [x0] H=zAc call x0 H:=
 r7 Tryz.func24 (D:=fun L H=>zvf call (G L 0) H)
 (p0 (q0 (q0 (pS qlu (fun x L H=>x call (G L 1) (G L 2) (G L 3) H) (p0 (q0 (pS qpf (fun x L H=>x call (G L 2) (G L 3) H) (p0 (q0 (pS quu (fun x L H=>x call (G L 2) (G L 3) H) (p0 qS)) (q0 (r8 (pT (D:=fun k5 L H=>qi2 call (fun H=>qpd call (G L 2) (G L 3) H) (G L 3) k5 (G L 8) H) (fun k5=>p0 (q0 (pS qpg (fun x L H=>x call (qpl call k5 L) (G L 3) (G L 8) H) (p0 (q0 (pS qpk (fun x L H=>x call (qpl call k5 L) (G L 8) H) (p0 qS)) (r8 (q0 (pS qo8 (fun x L H=>x call (qpl call k5 L) (G L 8) (G L 9) H) (p0 (q0 (r8 (pT (D:=fun k8 L H=>qly call (fun H=>ql0 call (qpl call k5 L) (G L 8) H) (G L 9) k8 (G L 10) H) (fun k8=>p0 (q0 (pS qph (fun x L H=>x call (qpn call k5 k8 L) (G L 9) (G L 10) H) (p0 (q0 (pS qi5 (fun x L H=>x call (qpn call k5 k8 L) (G L 10) H) (p0 qS)) (r8 (q0 (pS qpa (fun x L H=>x call (qpn call k5 k8 L) (G L 9) (G L 10) (G L 11) H) (p0 (q0 (pS qpj (fun x L H=>x call (qpn call k5 k8 L) (G L 9) (G L 10) (G L 11) H) (p0 qS)) (q0 (r8 (pT (D:=fun k16 L H=>qlx call (zdz call k5 k8 L) (G L 9) (G L 10) k16 (G L 11) (G L 12) H) (fun k16=>p0 (q0 (pS qpi (fun x L H=>x call (zdy call k5 k8 k16 L) (G L 9) (G L 10) (G L 11) (G L 12) H) (p0 (q0 (pS qi4 (fun x L H=>x call (zdy call k5 k8 k16 L) (G L 11) (G L 12) H) (p0 qS)) qS))) (q0 (pS qpb (fun x L H=>x call (zdy call k5 k8 k16 L) (zdz call k5 k8 L) (G L 9) (G L 10) (G L 11) (G L 12) (G L 90) H) (p0 qS)) qS))))) qS)))) qS))))) (q0 (pS qo9 (fun x L H=>x call (qpn call k5 k8 L) (fun H=>ql0 call (qpl call k5 L) (G L 8) H) (G L 9) (G L 10) (G L 78) H) (p0 qS)) qS))))) qS))) qS))))) (q0 (pS qo7 (fun x L H=>x call (qpl call k5 L) (fun H=>qpd call (G L 2) (G L 3) H) (G L 3) (G L 8) (G L 66) H) (p0 qS)) qS))))) qS)))) (q0 (r8 (pT (D:=fun k61 L H=>qi1 call (fun H=>qlz call (G L 2) (G L 3) H) (G L 1) (G L 3) k61 (G L 4) H) (fun k61=>p0 (q0 (pS qg7 (fun x L H=>x call (qpm call k61 L) (G L 1) (G L 3) (G L 4) H) (p0 (q0 (pS qpe (fun x L H=>x call (qpm call k61 L) (G L 4) H) (p0 qS)) (r8 (q0 (pS qpc (fun x L H=>x call (qpm call k61 L) (G L 1) (G L 3) (G L 4) H) (p0 (q0 (pS qo5 (fun x L H=>x call (qpm call k61 L) (G L 1) (G L 3) (G L 4) (G L 5) H) (p0 (q0 (pS qo6 (fun x L H=>x call (qpm call k61 L) (G L 1) (G L 4) (G L 5) (G L 7) H) (p0 qS)) qS))) qS))) qS))))) (q0 (pS qlw (fun x L H=>x call (qpm call k61 L) (fun H=>qlz call (G L 2) (G L 3) H) (G L 1) (G L 3) (G L 4) (G L 19) H) (p0 qS)) qS))))) qS)))) qS) qS))
def qul(call:Ev.Call)(k1:Nat)(L:TT AV (iJ (Tryz.f135.ntmps+1))):=fun bY H=>qox call (fun x4 H=>.ok x4 H) (fun H=>q2h call H) (G L 0) (G L 1) (G L 10) (G L 11) k1 bY H
theorem zks:(aP Tryz.prog 135).f call [x0,x1] H=zCy call x0 x1 H:=
 r7 Tryz.func135 (D:=fun L H=>ztv call (G L 0) (G L 1) H)
 (p0 (q0 (q0 (pS quk (fun x L H=>x call H) (p0 qS)) (q0 (pS qou (fun x L H=>x call (G L 0) (G L 1) (G L 10) (G L 11) (G L 12) H) (p0 (r8 (pT (D:=fun k1 L H=>qox call (fun x4 H=>.ok x4 H) (fun H=>q2h call H) (G L 0) (G L 1) (G L 10) (G L 11) k1 (G L 12) H) (fun k1=>p0 (q0 (q0 (pS qoy (fun x L H=>x call (fun x4 H=>.ok x4 H) (qul call k1 L) (G L 0) (G L 1) (G L 10) (G L 12) H) (p0 (q0 (pS quj (fun x L H=>x call (qul call k1 L) (G L 12) H) (p0 qS)) (r8 (q0 (pS qov (fun x L H=>x call (fun x4 H=>.ok x4 H) (qul call k1 L) (G L 0) (G L 1) (G L 5) (G L 6) (G L 12) H) (p0 (r8 (q0 (pS qow (fun x L H=>x call (fun x4 H=>.ok x4 H) (qul call k1 L) (G L 1) (G L 5) (G L 6) (G L 12) (G L 17) H) (p0 (pB qS (q0 (pS qui (fun x L H=>x call (fun x4 H=>.ok x4 H) (qul call k1 L) (G L 12) (G L 40) H) (p0 qS)) qS)))) qS)))) qS))))) qS) qS)))))) qS)) qS))
def zq4(call:Ev.Call)(k16:Nat)(L:TT AV (iJ (Tryz.f78.ntmps+1))):=fun x9 H=>qzf call (fun x9 x10 H=>qlo call (fun x9 H=>qri call (G L 2) (G L 3) (G L 8) x9 H) (G L 1) (G L 3) (G L 4) k16 x9 x10 H) x9 (G L 10) H
theorem zl1:(aP Tryz.prog 78).f call [x0,x1,x2,x3] H=zBg call x0 x1 x2 x3 H:=
 r7 Tryz.func78 (D:=fun L H=>zuy call (G L 0) (G L 1) (G L 2) (G L 3) H)
 (p0 (q0 (q0 (q0 qS (q0 (r8 (pT (D:=fun k16 L H=>qlo call (fun x9 H=>qri call (G L 2) (G L 3) (G L 8) x9 H) (G L 1) (G L 3) (G L 4) k16 (G L 9) (G L 10) H) (fun k16=>p0 (q0 (q0 qS (r8 (q0 (q0 (r8 (pT (D:=fun k21 L H=>qln call (zq4 call k16 L) (G L 1) (G L 3) (G L 4) (G L 10) (G L 11) k21 (G L 9) (G L 12) H) (fun k21=>p0 (q0 (q0 qS (r8 (q0 (r8 (pT (D:=fun k24 L H=>qrh call (fun x9 H=>qze call (fun x9 bY H=>qln call (zq4 call k16 L) (G L 1) (G L 3) (G L 4) (G L 10) (G L 11) k21 x9 bY H) x9 (G L 12) H) (G L 1) (G L 3) (G L 4) (G L 10) (G L 11) (G L 12) k24 (G L 9) (G L 13) H) (fun k24=>p0 qS))) qS))) qS)))) qS) qS))) qS)))) qS)) qS) qS))
theorem zj3:(aP Tryz.prog 54).f call [x0,x1] H=zEj call x0 x1 H:=
 r7 Tryz.func54 (D:=fun L H=>zta call (G L 0) (G L 1) H)
 (p0 (q0 (q0 (p0 (E:=fun L H=>qk9 call H) qS) (q0 (r8 (p0 (E:=fun L H=>q9t call (fun x4 H=>.ok x4 H) (fun H=>qk9 call H) (G L 0) (G L 3) (G L 5) H) (pT (D:=fun k2 L H=>qop call (fun x4 H=>.ok x4 H) (fun H=>qk9 call H) (G L 0) (G L 3) k2 (G L 5) H) (fun k2=>p0 (q0 (p0 (E:=fun L H=>q9p call (fun x4 H=>.ok x4 H) (fun x5 H=>qop call (fun x4 H=>.ok x4 H) (fun H=>qk9 call H) (G L 0) (G L 3) k2 x5 H) (G L 0) (G L 3) (G L 5) H) (q0 (p0 (E:=fun L H=>q9q call (fun x5 H=>qop call (fun x4 H=>.ok x4 H) (fun H=>qk9 call H) (G L 0) (G L 3) k2 x5 H) (G L 5) H) qS) qS)) qS))) (fun _ _=>by kernel_rfl))) qS)) qS))
theorem zly:(aP Tryz.prog 84).f call [x0] H=zBj call x0 H:=
 r7 Tryz.func84 (D:=fun L H=>zuv call (G L 0) H)
 (p0 (q0 (q0 (q0 (q0 (q0 (q0 qS (q0 (r8 (pT (D:=fun k7 L H=>quq call (fun x2 H=>.ok x2 H) (fun H=>q2w call H) (G L 4) (G L 26) (G L 27) k7 (G L 5) (G L 28) H) (fun k7=>p0 (q0 (q0 (q0 qS (r8 (q0 (q0 (r8 (pT (D:=fun k18 L H=>qrg call (fun x2 H=>.ok x2 H) (fun x5 H=>qzc call (fun x5 x28 H=>quq call (fun x2 H=>.ok x2 H) (fun H=>q2w call H) (G L 4) (G L 26) (G L 27) k7 x5 x28 H) x5 (G L 28) H) (G L 4) (G L 7) (G L 34) k18 (G L 5) (G L 35) H) (fun k18=>p0 qS))) qS) qS))) qS) qS)))) qS)) qS) qS) qS) qS) qS))
theorem zlb:(aP Tryz.prog 118).f call [x0,x1] H=zCf call x0 x1 H:=
 r7 Tryz.func118 (D:=fun L H=>zua call (G L 0) (G L 1) H)
 (p0 (q0 (q0 (q0 (q0 qS (q0 (r8 (pT (D:=fun k12 L H=>qli call (fun H=>q2p call (G L 2) (G L 3) (G L 5) H) (G L 5) (G L 15) (G L 16) k12 (G L 17) H) (fun k12=>p0 (q0 (q0 (q0 qS (r8 (q0 (q0 (r8 (pT (D:=fun k19 L H=>qq9 call (fun H=>qyu call (fun kF H=>qli call (fun H=>q2p call (G L 2) (G L 3) (G L 5) H) (G L 5) (G L 15) (G L 16) k12 kF H) (G L 17) H) (G L 5) (G L 6) (G L 22) (G L 23) k19 (G L 24) H) (fun k19=>p0 qS))) qS) qS))) qS) qS)))) qS)) qS) qS) qS))
theorem zlf:(aP Tryz.prog 116).f call [x0] H=zCb call x0 H:=
 r7 Tryz.func116 (D:=fun L H=>qn2 call 3 xL xZ (G L 0) H)
 (p0 (q0 (q0 (q0 qS (q0 (r8 (pT (D:=fun k1 L H=>qnh call 3 xL xZ (fun x2 H=>.ok x2 H) (fun H=>qkb call 3 xL xZ (G L 0) H) (G L 0) k1 (G L 3) H) (fun k1=>p0 (q0 (q0 qS (r8 (q0 (pB (q0 (q0 qS (q0 (r8 (pT (D:=fun k15 L H=>qf2 call 3 xL xZ (fun x3 H=>qfa call 3 xL xZ (fun x2 H=>.ok x2 H) (G L 0) x3 H) (G L 0) (G L 4) k15 (G L 3) (G L 5) H) (fun k15=>p0 qS))) qS)) qS) qS) qS))) qS)))) qS)) qS) qS))
theorem zlc:(aP Tryz.prog 119).f call [x0] H=zCe call x0 H:=
 r7 Tryz.func119 (D:=fun L H=>zue call (G L 0) H)
 (p0 (q0 (q0 (q0 (q0 qS (q0 (r8 (pT (D:=fun k7 L H=>q2q call (fun H=>za9 call (G L 3) H) (G L 3) (G L 29) k7 (G L 30) H) (fun k7=>p0 qS))) qS)) (q0 (r8 (pT (D:=fun k21 L H=>qra call (fun H=>qyx call (G L 1) (G L 3) H) (G L 3) (G L 8) (G L 9) k21 (G L 10) H) (fun k21=>p0 qS))) qS)) qS) qS))
theorem zlh:(aP Tryz.prog 112).f call [x0,x1,x2,x3] H=zBy call x0 x1 x2 x3 H:=
 r7 Tryz.func112 (D:=fun L H=>zui call (G L 0) (G L 1) (G L 2) (G L 3) H)
 (p0 (q0 (q0 (q0 qS (q0 (q0 (pB (q0 (r8 (pT (D:=fun k8 L H=>qun call (fun x9 H=>q2u call x9 H) (G L 0) (G L 3) (G L 22) (G L 23) k8 (G L 9) (G L 24) H) (fun k8=>p0 qS))) qS) qS) qS) qS)) qS) qS))
theorem zke:(aP Tryz.prog 99).f call [x0,x1] H=zDm call x0 x1 H:=
 r7 Tryz.func99 (D:=fun L H=>ztk call (G L 0) (G L 1) H)
 (p0 (q0 (q0 qS (q0 (r8 (pT (D:=fun k3 L H=>q2f call (fun x4 H=>.ok x4 H) (fun H=>q94 call H) (G L 0) (G L 3) (G L 7) k3 (G L 8) H) (fun k3=>p0 qS))) qS)) qS))
theorem zkh:(aP Tryz.prog 211).f call [x0,x1] H=zDj call x0 x1 H:=
 r7 Tryz.func211 (D:=fun L H=>ztm call (G L 0) (G L 1) H)
 (p0 (q0 (q0 qS (q0 (r8 (pT (D:=fun k2 L H=>q2g call (fun x4 H=>.ok x4 H) (fun H=>zqc call H) (G L 0) (G L 1) (G L 7) k2 (G L 8) H) (fun k2=>p0 qS))) qS)) qS))
theorem zmc:(aP Tryz.prog 52).f call [x0,x1,x2] H=zAs call x0 x1 x2 H:=
 r7 Tryz.func52 (D:=fun L H=>zu7 call (G L 0) (G L 1) (G L 2) H)
 (p0 (q0 (q0 (q0 qS (q0 (r8 (pT (D:=fun k4 L H=>q3d call (fun x6 H=>.ok x6 H) (fun H=>zc9 call H) (G L 1) (G L 2) (G L 7) k4 (G L 8) H) (fun k4=>p0 qS))) qS)) qS) qS))
theorem zkx:(aP Tryz.prog 93).f call [x0] H=zCt call x0 H:=
 r7 Tryz.func93 (D:=fun L H=>zty call (G L 0) H)
 (p0 (q0 (q0 (q0 qS (q0 (r8 (pT (D:=fun k2 L H=>q2m call (fun x2 H=>.ok x2 H) (fun H=>zaw call (G L 3) H) (G L 3) (G L 6) (G L 7) k2 (G L 8) H) (fun k2=>p0 qS))) qS)) qS) qS))
theorem zj1:(aP Tryz.prog 82).f call [x0,x1] H=zEo call x0 x1 H:=
 r7 Tryz.func82 (D:=fun L H=>zs8 call (G L 0) (G L 1) H)
 (p0 (q0 (q0 (p0 (E:=fun L H=>q9n call (G L 2) (G L 3) H) qS) qS) qS))
theorem zkc:(aP Tryz.prog 168).f call [x0,x1] H=zDo call x0 x1 H:=
 r7 Tryz.func168 (D:=fun L H=>zti call (G L 0) (G L 1) H)
 (p0 qS)
theorem zlw:(aP Tryz.prog 86).f call [x0,x1,x2,x3,x4,x5,x6] H=zBl call x0 x1 x2 x3 x4 x5 x6 H:=
 r7 Tryz.func86 (D:=fun L H=>zut call (G L 0) (G L 1) (G L 2) (G L 3) (G L 4) (G L 5) (G L 6) H)
 (p0 qS)
theorem zle:(aP Tryz.prog 115).f call [x0] H=zCc call x0 H:=
 r7 Tryz.func115 (D:=fun L H=>zug call (G L 0) H)
 (p0 qS)
theorem zll:(aP Tryz.prog 109).f call [x0,x1,x2] H=zBv call x0 x1 x2 H:=
 r7 Tryz.func109 (D:=fun L H=>zuk call (G L 0) (G L 1) (G L 2) H)
 (p0 qS)
theorem zjc:(aP Tryz.prog 63).f call [x0,x1] H=zFu call x0 x1 H:=
 r7 Tryz.func63 (D:=fun L H=>zsl call (G L 0) (G L 1) H)
 (p0 qS)
theorem zjk:(aP Tryz.prog 31).f call [x0] H=zFm call x0 H:=
 r7 Tryz.func31 (D:=fun L H=>zsq call (G L 0) H)
 (p0 qS)
theorem zj4:(aP Tryz.prog 53).f call [x0] H=zEi call x0 H:=
 r7 Tryz.func53 (D:=fun L H=>ztb call (G L 0) H)
 (p0 qS)
theorem zln:(aP Tryz.prog 104).f call [x0,x1,x2] H=zBt call x0 x1 x2 H:=
 r7 Tryz.func104 (D:=fun L H=>zyw call (G L 0) (G L 1) (G L 2) H)
 (p0 qS)
theorem zkv:(aP Tryz.prog 148).f call [x0,x1] H=zCv call x0 x1 H:=
 r7 Tryz.func148 (D:=fun L H=>zyq call (G L 0) (G L 1) H)
 (p0 qS)
theorem zkq:(aP Tryz.prog 139).f call [x0,x1] H=zDa call x0 x1 H:=
 r7 Tryz.func139 (D:=fun L H=>ztt call (G L 0) (G L 1) H)
 (p0 qS)
theorem zkt:(aP Tryz.prog 165).f call [x0] H=zCx call x0 H:=
 r7 Tryz.func165 (D:=fun L H=>ztw call (G L 0) H)
 (p0 qS)
theorem zlx:(aP Tryz.prog 85).f call [x0] H=zBk call x0 H:=
 r7 Tryz.func85 (D:=fun L H=>zuu call (G L 0) H)
 (p0 qS)
theorem zme:(aP Tryz.prog 50).f call [x0] H=zAq call x0 H:=
 r7 Tryz.func50 (D:=fun L H=>zva call (G L 0) H)
 (p0 qS)
theorem zj5:(aP Tryz.prog 26).f call [x0] H=zEd call x0 H:=
 r7 Tryz.func26 (D:=fun L H=>ztc call (G L 0) H)
 (p0 (q0 (q0 (q0 (p0 (E:=fun L H=>yS call (G L 3) H) qS) (q0 (r8 (p0 (E:=fun L H=>q9v call (fun x3 H=>yS call x3 H) (G L 0) (G L 3) (G L 4) H) (pT (D:=fun k1 L H=>y9 call (fun x3 H=>yS call x3 H) (G L 0) k1 (G L 3) (G L 4) H) (fun k1=>p0 (q0 (p0 (E:=fun L H=>qx6 call (fun x3 x4 H=>y9 call (fun x3 H=>yS call x3 H) (G L 0) k1 x3 x4 H) (G L 0) (G L 3) (G L 4) H) (q0 (p0 (E:=fun L H=>qoq call (fun x3 x4 H=>y9 call (fun x3 H=>yS call x3 H) (G L 0) k1 x3 x4 H) (G L 3) (G L 4) H) qS) (r8 (q0 (p0 (E:=fun L H=>qx7 call (fun x3 x4 H=>y9 call (fun x3 H=>yS call x3 H) (G L 0) k1 x3 x4 H) (G L 0) (G L 3) (G L 4) H) (q0 (q0 (q0 (p0 (E:=fun L H=>qfm call (fun x3 x4 H=>y9 call (fun x3 H=>yS call x3 H) (G L 0) k1 x3 x4 H) (G L 0) (G L 4) (G L 5) (G L 6) H) (q0 (p0 (E:=fun L H=>quf call (fun x3 x4 H=>y9 call (fun x3 H=>yS call x3 H) (G L 0) k1 x3 x4 H) (G L 4) (G L 5) H) qS) qS)) (q0 (r8 (p0 (E:=fun L H=>qyb call (fun x5 x6 H=>qfm call (fun x3 x4 H=>y9 call (fun x3 H=>yS call x3 H) (G L 0) k1 x3 x4 H) (G L 0) (G L 4) x5 x6 H) (G L 0) (G L 3) (G L 4) (G L 5) (G L 6) (G L 7) H) (pT (D:=fun k11 L H=>qfl call (fun x5 x6 H=>qfm call (fun x3 x4 H=>y9 call (fun x3 H=>yS call x3 H) (G L 0) k1 x3 x4 H) (G L 0) (G L 4) x5 x6 H) (G L 0) (G L 3) (G L 4) k11 (G L 5) (G L 6) (G L 7) H) (fun k11=>p0 (q0 (p0 (E:=fun L H=>qx8 call (fun x5 x6 x7 H=>qfl call (fun x5 x6 H=>qfm call (fun x3 x4 H=>y9 call (fun x3 H=>yS call x3 H) (G L 0) k1 x3 x4 H) (G L 0) (G L 4) x5 x6 H) (G L 0) (G L 3) (G L 4) k11 x5 x6 x7 H) (G L 0) (G L 3) (G L 4) (G L 5) (G L 6) (G L 7) H) (q0 (p0 (E:=fun L H=>qx9 call (fun x5 x6 x7 H=>qfl call (fun x5 x6 H=>qfm call (fun x3 x4 H=>y9 call (fun x3 H=>yS call x3 H) (G L 0) k1 x3 x4 H) (G L 0) (G L 4) x5 x6 H) (G L 0) (G L 3) (G L 4) k11 x5 x6 x7 H) (G L 5) (G L 6) (G L 7) H) qS) (r8 (q0 (p0 (E:=fun L H=>qla call (fun x5 x6 x7 H=>qfl call (fun x5 x6 H=>qfm call (fun x3 x4 H=>y9 call (fun x3 H=>yS call x3 H) (G L 0) k1 x3 x4 H) (G L 0) (G L 4) x5 x6 H) (G L 0) (G L 3) (G L 4) k11 x5 x6 x7 H) (G L 3) (G L 5) (G L 6) (G L 7) H) qS) qS)))) qS))) (fun _ _=>by kernel_rfl))) qS)) qS) qS)) qS)))) qS))) (fun _ _=>by kernel_rfl))) qS)) qS) qS))
def zcy(call:Ev.Call)(k11:Nat)(L:TT AV (iJ (Tryz.f57.ntmps+1))):=fun rO H=>qix call (fun H=>q20 call (G L 8) H) (G L 1) (G L 4) (G L 8) (G L 39) (G L 40) k11 rO H
theorem zma:(aP Tryz.prog 57).f call [x0] H=zAu call x0 H:=
 r7 Tryz.func57 (D:=fun L H=>zu5 call (G L 0) H)
 (p0 (q0 (q0 (q0 (pS qo2 (fun x L H=>x call (G L 1) (G L 4) H) (p0 (q0 (pS qo3 (fun x L H=>x call (G L 1) (G L 4) H) (p0 (q0 (q0 (pS qiy (fun x L H=>x call (G L 1) (G L 4) (G L 8) H) (p0 (q0 qS (q0 (r8 (pT (D:=fun k11 L H=>qix call (fun H=>q20 call (G L 8) H) (G L 1) (G L 4) (G L 8) (G L 39) (G L 40) k11 (G L 41) H) (fun k11=>p0 (q0 (q0 (q0 qS (r8 (q0 (q0 (q0 (q0 (r8 (pT (D:=fun k18 L H=>qro call (fun H=>qzn call (zcy call k11 L) (G L 41) H) (G L 8) (G L 11) (G L 83) (G L 84) k18 (G L 85) H) (fun k18=>p0 qS))) qS) (q0 (r8 (pT (D:=fun zP L H=>qiw call (fun dN H=>qrs call (zcy call k11 L) (G L 8) (G L 10) dN (G L 41) H) (G L 4) (G L 8) (G L 9) (G L 47) (G L 48) zP (G L 11) (G L 49) H) (fun zP=>p0 (q0 (q0 (pS qo4 (fun x L H=>x call (fun dN x49 H=>qiw call (fun dN H=>qrs call (zcy call k11 L) (G L 8) (G L 10) dN (G L 41) H) (G L 4) (G L 8) (G L 9) (G L 47) (G L 48) zP dN x49 H) (G L 4) (G L 8) (G L 9) (G L 11) (G L 47) (G L 49) H) (p0 qS)) qS) qS)))) qS)) qS) qS))) qS) qS)))) qS)))) qS) qS))) qS))) qS) qS) qS))
theorem zjy:(aP Tryz.prog 106).f call [x0,x1] H=zEv call x0 x1 H:=
 r7 Tryz.func106 (D:=fun L H=>zs5 call (G L 0) (G L 1) H)
 (p0 (q0 (q0 (p0 (E:=fun L H=>qj1 call (G L 0) (G L 1) H) (q0 (p0 (E:=fun L H=>q9i call (G L 0) (G L 1) H) (q0 (p0 (E:=fun L H=>zp0 call H) qS) qS)) qS)) (q0 (r8 (p0 (E:=fun L H=>q9k call (fun x4 H=>.ok x4 H) (fun H=>qj1 call (G L 0) (G L 1) H) (G L 0) (G L 1) (G L 5) H) (pT (D:=fun k9 L H=>qk8 call (fun x4 H=>.ok x4 H) (fun H=>qj1 call (G L 0) (G L 1) H) (G L 0) (G L 1) k9 (G L 5) H) (fun k9=>p0 (q0 (p0 (E:=fun L H=>qx3 call (fun x4 H=>.ok x4 H) (fun x5 H=>qk8 call (fun x4 H=>.ok x4 H) (fun H=>qj1 call (G L 0) (G L 1) H) (G L 0) (G L 1) k9 x5 H) (G L 0) (G L 1) (G L 5) H) (q0 (p0 (E:=fun L H=>qx5 call (fun x5 H=>qk8 call (fun x4 H=>.ok x4 H) (fun H=>qj1 call (G L 0) (G L 1) H) (G L 0) (G L 1) k9 x5 H) (G L 5) H) qS) (r8 (q0 (p0 (E:=fun L H=>qx4 call (fun x4 H=>.ok x4 H) (fun x5 H=>qk8 call (fun x4 H=>.ok x4 H) (fun H=>qj1 call (G L 0) (G L 1) H) (G L 0) (G L 1) k9 x5 H) (G L 0) (G L 1) (G L 5) H) qS) qS)))) qS))) (fun _ _=>by kernel_rfl))) qS)) qS))
theorem zju:(aP Tryz.prog 9).f call [x0,x1] H=zFd call x0 x1 H:=
 r7 Tryz.func9 (D:=fun L H=>zsz call (G L 0) (G L 1) H)
 (p0 (q0 (q0 (p0 (E:=fun L H=>qxs call (G L 0) (G L 1) H) (q0 (p0 (E:=fun L H=>qoj call H) qS) (q0 (r8 (p0 (E:=fun L H=>q9b call (fun x4 H=>.ok x4 H) (fun H=>qoj call H) (G L 0) (G L 1) (G L 5) H) (pT (D:=fun k1 L H=>qoi call (fun x4 H=>.ok x4 H) (fun H=>qoj call H) (G L 0) (G L 1) k1 (G L 5) H) (fun k1=>p0 (q0 (p0 (E:=fun L H=>q88 call (fun x4 H=>.ok x4 H) (fun x5 H=>qoi call (fun x4 H=>.ok x4 H) (fun H=>qoj call H) (G L 0) (G L 1) k1 x5 H) (G L 0) (G L 1) (G L 5) H) (q0 (p0 (E:=fun L H=>q89 call (fun x5 H=>qoi call (fun x4 H=>.ok x4 H) (fun H=>qoj call H) (G L 0) (G L 1) k1 x5 H) (G L 5) H) qS) qS)) qS))) (fun _ _=>by kernel_rfl))) qS))) qS) qS))
theorem zj7:(aP Tryz.prog 7).f call [x0] H=zDw call x0 H:=
 r7 Tryz.func7 (D:=fun L H=>zte call (G L 0) H)
 (p0 (q0 (q0 (q0 (q0 (p0 (E:=fun L H=>qg3 call (G L 2) (G L 4) (G L 5) H) qS) (q0 (r8 (p0 (E:=fun L H=>qyf call (fun x5 H=>qg3 call (G L 2) (G L 4) x5 H) (G L 1) (G L 4) (G L 5) (G L 6) H) (pT (D:=fun k14 L H=>qiq call (fun x5 H=>qg3 call (G L 2) (G L 4) x5 H) (G L 1) (G L 4) k14 (G L 5) (G L 6) H) (fun k14=>p0 (q0 (p0 (E:=fun L H=>qyd call (fun x5 x6 H=>qiq call (fun x5 H=>qg3 call (G L 2) (G L 4) x5 H) (G L 1) (G L 4) k14 x5 x6 H) (G L 1) (G L 4) (G L 5) (G L 6) H) (q0 (p0 (E:=fun L H=>qlb call (fun x5 x6 H=>qiq call (fun x5 H=>qg3 call (G L 2) (G L 4) x5 H) (G L 1) (G L 4) k14 x5 x6 H) (G L 5) (G L 6) H) qS) qS)) qS))) (fun _ _=>by kernel_rfl))) qS)) qS) qS) qS))
theorem zji:(aP Tryz.prog 34).f call [x0,x1] H=zFo call x0 x1 H:=
 r7 Tryz.func34 (D:=fun L H=>zso call (G L 0) (G L 1) H)
 (p0 (q0 (r8 (p0 (E:=fun L H=>q8l call (fun H=>.ok (.aY []) H) (fun H=>.ok (.aY []) H) (G L 0) (G L 5) (G L 6) (G L 7) H) (pT (D:=fun k2 L H=>qn9 call (fun H=>.ok (.aY []) H) (fun H=>.ok (.aY []) H) (G L 0) (G L 5) (G L 6) k2 (G L 7) H) (fun k2=>p0 (q0 (q0 (p0 (E:=fun L H=>qxk call (fun H=>.ok (.aY []) H) (fun x7 H=>qn9 call (fun H=>.ok (.aY []) H) (fun H=>.ok (.aY []) H) (G L 0) (G L 5) (G L 6) k2 x7 H) (G L 0) (G L 5) (G L 7) H) (q0 (p0 (E:=fun L H=>q2a call (fun x7 H=>qn9 call (fun H=>.ok (.aY []) H) (fun H=>.ok (.aY []) H) (G L 0) (G L 5) (G L 6) k2 x7 H) (G L 7) H) qS) qS)) qS) qS))) (fun _ _=>by kernel_rfl))) qS))
theorem zkw:(aP Tryz.prog 150).f call [x0,x1] H=zCu call x0 x1 H:=
 r7 Tryz.func150 (D:=fun L H=>zyr call (G L 0) (G L 1) H)
 (p0 (p7 (q0 (q0 (q0 (r8 (pT (D:=fun k3 L H=>qo0 call (fun H=>.ok (.aY []) H) (G L 0) k3 (G L 4) H) (fun k3=>p0 (q0 (r8 (q0 (q0 qS (r8 (pT (D:=fun k42 L H=>qq4 call (fun x4 H=>qo0 call (fun H=>.ok (.aY []) H) (G L 0) k3 x4 H) (fun x4 H=>qq5 call (fun x4 H=>qo0 call (fun H=>.ok (.aY []) H) (G L 0) k3 x4 H) (G L 0) x4 (G L 5) H) (G L 0) (G L 5) k42 (G L 4) H) (fun k42=>p0 (q0 (r8 (q0 (q0 (q0 qS qS) qS) qS)) qS))))) qS)) qS)))) qS) qS) qS)))
theorem zmd:(aP Tryz.prog 51).f call [x0,x1] H=zAr call x0 x1 H:=
 r7 Tryz.func51 (D:=fun L H=>zu9 call (G L 0) (G L 1) H)
 (p0 (q0 (q0 (q0 (q0 qS (q0 (pB (q0 (q0 qS (q0 (r8 (pT (D:=fun k19 L H=>qr1 call (fun x7 H=>qzx call (G L 1) (G L 2) (G L 5) x7 H) (G L 1) (G L 2) k19 (G L 7) (G L 8) H) (fun k19=>p0 qS))) qS)) qS) qS) qS)) (q0 (r8 (pT (D:=fun k36 L H=>qr0 call (fun x5 H=>qr3 call (G L 1) (G L 2) x5 H) (G L 1) (G L 2) k36 (G L 5) (G L 6) H) (fun k36=>p0 qS))) qS)) qS) qS))
theorem zmj:(aP Tryz.prog 35).f call [x0] H=zAh call x0 H:=
 r7 Tryz.func35 (D:=fun L H=>zvd call (G L 0) H)
 (p0 (q0 (q0 (q0 qS (q0 (r8 (pT (D:=fun k2 L H=>qut call (fun x3 H=>zdj call x3 H) (G L 1) k2 (G L 3) (G L 4) H) (fun k2=>p0 (q0 (q0 qS (r8 (q0 (r8 (pT (D:=fun k5 L H=>q3e call (fun x3 H=>zdg call (fun x3 x4 H=>qut call (fun x3 H=>zdj call x3 H) (G L 1) k2 x3 x4 H) x3 (G L 4) H) (G L 1) (G L 4) k5 (G L 3) (G L 5) H) (fun k5=>p0 qS))) qS))) qS)))) qS)) qS) qS))
theorem zlr:(aP Tryz.prog 90).f call [x0] H=zBp call x0 H:=
 r7 Tryz.func90 (D:=fun L H=>zup call (G L 0) H)
 (p0 (q0 (q0 (q0 (pS qo1 (fun x L H=>x call (G L 1) (G L 4) H) (p0 (q0 (q0 qS (q0 (r8 (pT (D:=fun k14 L H=>qre call (fun x6 H=>zb6 call x6 H) (G L 4) (G L 18) (G L 19) k14 (G L 6) (G L 20) H) (fun k14=>p0 qS))) qS)) qS))) qS) qS) qS))
theorem zl9:(aP Tryz.prog 39).f call [x0,x1,x2] H=zAy call x0 x1 x2 H:=
 r7 Tryz.func39 (D:=fun L H=>zu4 call (G L 0) (G L 1) (G L 2) H)
 (p0 (q0 (q0 (q0 qS (q0 (r8 (pT (D:=fun k7 L H=>qur call (fun x7 H=>eO (jH (iX (rV (aV 6 H (G L 6))) (iX (some x7) (some [])))) H) (fun H=>q2y call (G L 6) H) (G L 2) (G L 3) (G L 6) (G L 8) k7 (G L 9) H) (fun k7=>p0 qS))) qS)) qS) qS))
theorem zl7:(aP Tryz.prog 81).f call [x0,x1,x2] H=zAz call x0 x1 x2 H:=
 r7 Tryz.func81 (D:=fun L H=>zl8 call (G L 0) (G L 1) (G L 2) H)
 (p0 (q0 (q0 (q0 (q0 (q0 qS (q0 (r8 (pT (D:=fun k15 L H=>qrl call (fun x0 x8 H=>qrn call x0 (G L 7) x8 H) (G L 2) (G L 4) k15 (G L 0) (G L 8) (G L 9) H) (fun k15=>p0 qS))) qS)) qS) qS) qS) qS))
theorem zmf:(aP Tryz.prog 49).f call [x0,x1,x2,x3,x4] H=zAp call x0 x1 x2 x3 x4 H:=
 r7 Tryz.func49 (D:=fun L H=>zmg call (G L 0) (G L 1) (G L 2) (G L 3) (G L 4) H)
 (p0 (q0 (q0 (q0 (q0 (q0 (q0 (p0 (E:=fun L H=>qg6 call (G L 1) (G L 2) (G L 3) (G L 4) (G L 5) (G L 10) (G L 13) H) qS) qS) qS) qS) qS) qS) qS))
theorem zk4:(aP Tryz.prog 132).f call [x0] H=zCn call x0 H:=
 r7 Tryz.func132 (D:=fun L H=>zt3 call (G L 0) H)
 (p0 (q0 (q0 qS (q0 (r8 (pT (D:=fun k2 L H=>q2n call (fun x2 H=>.ok x2 H) (fun H=>zqs call H) (G L 6) (G L 7) k2 (G L 8) H) (fun k2=>p0 qS))) qS)) qS))
theorem zjz:(aP Tryz.prog 105).f call [x0,x1] H=zEu call x0 x1 H:=
 r7 Tryz.func105 (D:=fun L H=>zs6 call (G L 0) (G L 1) H)
 (p0 (q0 (q0 (p0 (E:=fun L H=>q9l call (G L 2) (G L 3) H) qS) qS) qS))
theorem zki:(aP Tryz.prog 166).f call [x0,x1] H=zDh call x0 x1 H:=
 r7 Tryz.func166 (D:=fun L H=>ztn call (G L 0) (G L 1) H)
 (p0 qS)
theorem zk8:(aP Tryz.prog 133).f call [x0,x1,x2,x3] H=zCj call x0 x1 x2 x3 H:=
 r7 Tryz.func133 (D:=fun L H=>zt7 call (G L 0) (G L 1) (G L 2) (G L 3) H)
 (p0 qS)
theorem zjb:(aP Tryz.prog 95).f call [x0] H=zFv call x0 H:=
 r7 Tryz.func95 (D:=fun L H=>zsk call (G L 0) H)
 (p0 qS)
theorem zk7:(aP Tryz.prog 134).f call [x0,x1] H=zCk call x0 x1 H:=
 r7 Tryz.func134 (D:=fun L H=>zt6 call (G L 0) (G L 1) H)
 (p0 qS)
theorem zlv:(aP Tryz.prog 87).f call [x0,x1,x2,x3] H=zBm call x0 x1 x2 x3 H:=
 r7 Tryz.func87 (D:=fun L H=>zus call (G L 0) (G L 1) (G L 2) (G L 3) H)
 (p0 qS)
theorem zjt:(aP Tryz.prog 12).f call [x0] H=zFe call x0 H:=
 r7 Tryz.func12 (D:=fun L H=>zsy call (G L 0) H)
 (p0 qS)
theorem zlz:(aP Tryz.prog 80).f call [x0,x1,x2] H=zBi call x0 x1 x2 H:=
 r7 Tryz.func80 (D:=fun L H=>zuw call (G L 0) (G L 1) (G L 2) H)
 (p0 qS)
theorem zkj:(aP Tryz.prog 167).f call [x0,x1] H=zDg call x0 x1 H:=
 r7 Tryz.func167 (D:=fun L H=>zto call (G L 0) (G L 1) H)
 (p0 qS)
theorem zj9:(aP Tryz.prog 226).f call [x0] H=zDr call x0 H:=
 r7 Tryz.func226 (D:=fun L H=>zyo call (G L 0) H)
 (p0 qS)
theorem zkf:(aP Tryz.prog 212).f call [x0] H=zDl call x0 H:=
 r7 Tryz.func212 (D:=fun L H=>zyp call (G L 0) H)
 (p0 qS)
theorem zky:(aP Tryz.prog 145).f call [x0] H=zCs call x0 H:=
 r7 Tryz.func145 (D:=fun L H=>ztz call (G L 0) H)
 (p0 qS)
theorem zmh:(aP Tryz.prog 48).f call [x0] H=zAo call x0 H:=
 r7 Tryz.func48 (D:=fun L H=>zvb call (G L 0) H)
 (p0 qS)
theorem zl3:(aP Tryz.prog 76).f call [x0] H=zBe call x0 H:=
 r7 Tryz.func76 (D:=fun L H=>zu1 call (G L 0) H)
 (p0 qS)
def zrd(call:Ev.Call)(k21:Nat)(zP:Nat)(L:TT AV (iJ (Tryz.f56.ntmps+1))):=fun H=>qzr call (fun x70 H=>qlr call (fun H=>qrw call (fun x63 H=>qi0 call (fun H=>qls call (G L 2) (G L 10) H) (G L 1) (G L 5) (G L 10) (G L 61) (G L 62) k21 x63 H) (G L 63) H) (G L 1) (G L 5) (G L 10) (G L 12) (G L 68) (G L 69) zP x70 H) (G L 70) H
def zrc(call:Ev.Call)(k21:Nat)(zP:Nat)(k46:Nat)(L:TT AV (iJ (Tryz.f56.ntmps+1))):=fun H=>qg5 call (fun x82 H=>qiz call (zrd call k21 zP L) (G L 1) (G L 5) (G L 10) (G L 12) (G L 14) (G L 80) (G L 81) k46 x82 H) (G L 82) H
theorem zmb:(aP Tryz.prog 56).f call [x0] H=zAt call x0 H:=
 r7 Tryz.func56 (D:=fun L H=>zu6 call (G L 0) H)
 (p0 (q0 (q0 (q0 (q0 (q0 (q0 qS (q0 (r8 (pT (D:=fun k21 L H=>qi0 call (fun H=>qls call (G L 2) (G L 10) H) (G L 1) (G L 5) (G L 10) (G L 61) (G L 62) k21 (G L 63) H) (fun k21=>p0 (q0 (q0 (q0 qS (r8 (q0 (q0 (r8 (pT (D:=fun zP L H=>qlr call (fun H=>qrw call (fun x63 H=>qi0 call (fun H=>qls call (G L 2) (G L 10) H) (G L 1) (G L 5) (G L 10) (G L 61) (G L 62) k21 x63 H) (G L 63) H) (G L 1) (G L 5) (G L 10) (G L 12) (G L 68) (G L 69) zP (G L 70) H) (fun zP=>p0 (q0 (q0 (q0 qS (r8 (q0 (q0 (q0 (r8 (pT (D:=fun k46 L H=>qiz call (zrd call k21 zP L) (G L 1) (G L 5) (G L 10) (G L 12) (G L 14) (G L 80) (G L 81) k46 (G L 82) H) (fun k46=>p0 (q0 (q0 (q0 qS (r8 (q0 (q0 (q0 (r8 (q0 (pB (q0 (r8 (pT (D:=fun k60 L H=>qru call (zrc call k21 zP k46 L) (G L 19) (G L 92) (G L 93) k60 (G L 94) H) (fun k60=>p0 qS))) qS) (q0 (pB qS (q0 (pB (q0 (q0 (r8 (pT (D:=fun k95 L H=>qrt call (zrc call k21 zP k46 L) (G L 18) (G L 19) (G L 129) (G L 130) k95 (G L 131) H) (fun k95=>p0 qS))) qS) qS) qS) qS)) qS)) qS)) qS) qS) qS))) qS) qS)))) qS) qS) qS))) qS) qS)))) qS) qS))) qS) qS)))) qS)) qS) (q0 (r8 (pT (D:=fun aE1 L H=>qhr call (fun H=>qkm call (G L 1) (G L 2) (G L 5) H) (G L 5) (G L 34) (G L 35) aE1 (G L 36) H) (fun aE1=>p0 (q0 (q0 (q0 qS (r8 (q0 (q0 (r8 (pT (D:=fun aLT L H=>qkl call (fun H=>qrx call (fun qB H=>qhr call (fun H=>qkm call (G L 1) (G L 2) (G L 5) H) (G L 5) (G L 34) (G L 35) aE1 qB H) (G L 36) H) (G L 5) (G L 7) (G L 41) (G L 42) aLT (G L 43) H) (fun aLT=>p0 qS))) qS) qS))) qS) qS)))) qS)) qS) qS) qS))
theorem zjr:(aP Tryz.prog 15).f call [x0,x1] H=zFg call x0 x1 H:=
 r7 Tryz.func15 (D:=fun L H=>zsw call (G L 0) (G L 1) H)
 (p0 (q0 (q0 (q0 (q0 (q0 (p0 (E:=fun L H=>qgv call (G L 5) H) qS) (q0 (r8 (p0 (E:=fun L H=>q85 call (fun x5 H=>qgv call x5 H) (G L 6) (G L 7) (G L 5) (G L 8) H) (pT (D:=fun k5 L H=>qgu call (fun x5 H=>qgv call x5 H) (G L 6) (G L 7) k5 (G L 5) (G L 8) H) (fun k5=>p0 (q0 (p0 (E:=fun L H=>qxp call (fun x5 x8 H=>qgu call (fun x5 H=>qgv call x5 H) (G L 6) (G L 7) k5 x5 x8 H) (G L 5) (G L 6) (G L 7) (G L 8) H) (q0 (p0 (E:=fun L H=>qk6 call (fun x5 x8 H=>qgu call (fun x5 H=>qgv call x5 H) (G L 6) (G L 7) k5 x5 x8 H) (G L 5) (G L 8) H) qS) (r8 (q0 (r8 (p0 (E:=fun L H=>q84 call (fun x5 H=>qk6 call (fun x5 x8 H=>qgu call (fun x5 H=>qgv call x5 H) (G L 6) (G L 7) k5 x5 x8 H) x5 (G L 8) H) (G L 6) (G L 7) (G L 8) (G L 5) (G L 9) H) (pT (D:=fun k8 L H=>qof call (fun x5 H=>qk6 call (fun x5 x8 H=>qgu call (fun x5 H=>qgv call x5 H) (G L 6) (G L 7) k5 x5 x8 H) x5 (G L 8) H) (G L 6) (G L 7) (G L 8) k8 (G L 5) (G L 9) H) (fun k8=>p0 (q0 (p0 (E:=fun L H=>qxq call (fun x5 x9 H=>qof call (fun x5 H=>qk6 call (fun x5 x8 H=>qgu call (fun x5 H=>qgv call x5 H) (G L 6) (G L 7) k5 x5 x8 H) x5 (G L 8) H) (G L 6) (G L 7) (G L 8) k8 x5 x9 H) (G L 5) (G L 6) (G L 7) (G L 8) (G L 9) H) (q0 (p0 (E:=fun L H=>qk7 call (fun x5 x9 H=>qof call (fun x5 H=>qk6 call (fun x5 x8 H=>qgu call (fun x5 H=>qgv call x5 H) (G L 6) (G L 7) k5 x5 x8 H) x5 (G L 8) H) (G L 6) (G L 7) (G L 8) k8 x5 x9 H) (G L 5) (G L 9) H) qS) qS)) qS))) (fun _ _=>by kernel_rfl))) qS)))) qS))) (fun _ _=>by kernel_rfl))) qS)) qS) qS) qS) qS))
theorem zjj:(aP Tryz.prog 33).f call [x0,x1] H=zFn call x0 x1 H:=
 r7 Tryz.func33 (D:=fun L H=>zsp call (G L 0) (G L 1) H)
 (p0 (q0 (q0 (p0 (E:=fun L H=>qxl call (G L 0) (G L 3) H) (q0 (q0 (q0 (p0 (E:=fun L H=>qj0 call (G L 3) (G L 5) (G L 6) H) (q0 (p0 (E:=fun L H=>q8n call (G L 5) H) qS) qS)) (q0 (r8 (p0 (E:=fun L H=>q8p call (fun x5 x6 H=>qj0 call (G L 3) x5 x6 H) (G L 0) (G L 3) (G L 5) (G L 6) (G L 7) H) (pT (D:=fun k7 L H=>qjz call (fun x5 x6 H=>qj0 call (G L 3) x5 x6 H) (G L 0) (G L 3) k7 (G L 5) (G L 6) (G L 7) H) (fun k7=>p0 (q0 (p0 (E:=fun L H=>qxm call (fun x5 x6 x7 H=>qjz call (fun x5 x6 H=>qj0 call (G L 3) x5 x6 H) (G L 0) (G L 3) k7 x5 x6 x7 H) (G L 0) (G L 3) (G L 5) (G L 6) (G L 7) H) (q0 (p0 (E:=fun L H=>q8m call (fun x5 x6 x7 H=>qjz call (fun x5 x6 H=>qj0 call (G L 3) x5 x6 H) (G L 0) (G L 3) k7 x5 x6 x7 H) (G L 5) (G L 6) (G L 7) H) qS) (r8 (q0 (p0 (E:=fun L H=>qk5 call (fun x5 x6 x7 H=>qjz call (fun x5 x6 H=>qj0 call (G L 3) x5 x6 H) (G L 0) (G L 3) k7 x5 x6 x7 H) (G L 0) (G L 5) (G L 6) (G L 7) H) qS) qS)))) qS))) (fun _ _=>by kernel_rfl))) qS)) qS) qS)) qS) qS))
theorem zjq:(aP Tryz.prog 14).f call [x0,x1] H=zFh call x0 x1 H:=
 r7 Tryz.func14 (D:=fun L H=>zsv call (G L 0) (G L 1) H)
 (p0 (q0 (q0 (p0 (E:=fun L H=>qxo call (G L 0) (G L 1) H) (q0 (p0 (E:=fun L H=>qoe call H) qS) (q0 (r8 (p0 (E:=fun L H=>q81 call (fun x4 H=>.ok x4 H) (fun H=>qoe call H) (G L 0) (G L 1) (G L 5) H) (pT (D:=fun k1 L H=>qod call (fun x4 H=>.ok x4 H) (fun H=>qoe call H) (G L 0) (G L 1) k1 (G L 5) H) (fun k1=>p0 (q0 (p0 (E:=fun L H=>q8y call (fun x4 H=>.ok x4 H) (fun x5 H=>qod call (fun x4 H=>.ok x4 H) (fun H=>qoe call H) (G L 0) (G L 1) k1 x5 H) (G L 0) (G L 1) (G L 5) H) (q0 (p0 (E:=fun L H=>q8z call (fun x5 H=>qod call (fun x4 H=>.ok x4 H) (fun H=>qoe call H) (G L 0) (G L 1) k1 x5 H) (G L 5) H) qS) qS)) qS))) (fun _ _=>by kernel_rfl))) qS))) qS) qS))
theorem zjl:(aP Tryz.prog 32).f call [x0,x1] H=zFl call x0 x1 H:=
 r7 Tryz.func32 (D:=fun L H=>zsr call (G L 0) (G L 1) H)
 (p0 (q0 (r8 (p0 (E:=fun L H=>q8t call (fun H=>.ok (.aY []) H) (fun H=>.ok (.aY []) H) (G L 0) (G L 5) (G L 6) (G L 7) H) (pT (D:=fun k2 L H=>qoa call (fun H=>.ok (.aY []) H) (fun H=>.ok (.aY []) H) (G L 0) (G L 5) (G L 6) k2 (G L 7) H) (fun k2=>p0 (q0 (q0 (p0 (E:=fun L H=>qxn call (fun H=>.ok (.aY []) H) (fun x7 H=>qoa call (fun H=>.ok (.aY []) H) (fun H=>.ok (.aY []) H) (G L 0) (G L 5) (G L 6) k2 x7 H) (G L 0) (G L 5) (G L 7) H) (q0 (p0 (E:=fun L H=>q8q call (fun x7 H=>qoa call (fun H=>.ok (.aY []) H) (fun H=>.ok (.aY []) H) (G L 0) (G L 5) (G L 6) k2 x7 H) (G L 7) H) qS) qS)) qS) qS))) (fun _ _=>by kernel_rfl))) qS))
theorem zjs:(aP Tryz.prog 13).f call [x0] H=zFf call x0 H:=
 r7 Tryz.func13 (D:=fun L H=>zsx call (G L 0) H)
 (p0 (q0 (q0 (q0 (p0 (E:=fun L H=>qoh call (G L 3) H) qS) (q0 (r8 (p0 (E:=fun L H=>q87 call (fun x3 H=>qoh call x3 H) (G L 0) (G L 3) (G L 4) H) (pT (D:=fun k1 L H=>qog call (fun x3 H=>qoh call x3 H) (G L 0) k1 (G L 3) (G L 4) H) (fun k1=>p0 (q0 (p0 (E:=fun L H=>qxr call (fun x3 x4 H=>qog call (fun x3 H=>qoh call x3 H) (G L 0) k1 x3 x4 H) (G L 0) (G L 3) (G L 4) H) (q0 (p0 (E:=fun L H=>que call (fun x3 x4 H=>qog call (fun x3 H=>qoh call x3 H) (G L 0) k1 x3 x4 H) (G L 3) (G L 4) H) qS) qS)) qS))) (fun _ _=>by kernel_rfl))) qS)) qS) qS))
theorem zlm:(aP Tryz.prog 107).f call [x0] H=zBu call x0 H:=
 r7 Tryz.func107 (D:=fun L H=>zul call (G L 0) H)
 (p0 (q0 (q0 (q0 qS (q0 (r8 (pT (D:=fun k5 L H=>qup call (fun x2 H=>.ok x2 H) (fun H=>zbt call H) (G L 13) (G L 14) k5 (G L 15) H) (fun k5=>p0 (q0 (q0 (q0 qS (r8 (q0 (q0 (q0 (r8 (pT (D:=fun k16 L H=>qrc call (fun x2 H=>.ok x2 H) (fun H=>zbn call (fun oQ H=>qup call (fun x2 H=>.ok x2 H) (fun H=>zbt call H) (G L 13) (G L 14) k5 oQ H) (G L 15) H) (G L 30) (G L 31) k16 (G L 32) H) (fun k16=>p0 qS))) qS) qS) qS))) qS) qS)))) qS)) qS) qS))
theorem zlp:(aP Tryz.prog 108).f call [x0] H=zBr call x0 H:=
 r7 Tryz.func108 (D:=fun L H=>zun call (G L 0) H)
 (p0 (q0 (q0 (q0 qS (q0 (r8 (pT (D:=fun k10 L H=>qlk call (fun H=>zb0 call (G L 3) H) (G L 3) (G L 16) (G L 17) k10 (G L 18) H) (fun k10=>p0 (q0 (q0 (q0 qS (r8 (q0 (q0 (q0 (r8 (pT (D:=fun k31 L H=>qrd call (fun H=>qy2 call (fun x18 H=>qlk call (fun H=>zb0 call (G L 3) H) (G L 3) (G L 16) (G L 17) k10 x18 H) (G L 18) H) (G L 3) (G L 5) (G L 32) k31 (G L 33) H) (fun k31=>p0 qS))) qS) qS) qS))) qS) qS)))) qS)) qS) qS))
theorem zk2:(aP Tryz.prog 140).f call [x0,x1,x2,x3,x4,x5,x6] H=zCo call x0 x1 x2 x3 x4 x5 x6 H:=
 r7 Tryz.func140 (D:=fun L H=>zk3 call (G L 0) (G L 1) (G L 2) (G L 3) (G L 4) (G L 5) (G L 6) H)
 (p0 (q0 (q0 (q0 (q0 (q0 (q0 (q0 (q0 qS (q0 (r8 (pT (D:=fun k37 L H=>qq6 call (fun x10 H=>.ok x10 H) (fun bY H=>qlf call (G L 3) (G L 11) bY H) (G L 0) (G L 1) (G L 2) (G L 3) (G L 6) (G L 51) k37 (G L 12) (G L 52) H) (fun k37=>p0 qS))) qS)) qS) qS) qS) qS) qS) qS) qS))
theorem zkb:(aP Tryz.prog 198).f call [x0,x1] H=zDp call x0 x1 H:=
 r7 Tryz.func198 (D:=fun L H=>zth call (G L 0) (G L 1) H)
 (p0 (q0 (q0 qS (q0 (r8 (pT (D:=fun k2 L H=>q2d call (fun x4 H=>.ok x4 H) (fun H=>q91 call H) (G L 0) (G L 1) (G L 7) k2 (G L 8) H) (fun k2=>p0 qS))) qS)) qS))
theorem zl2:(aP Tryz.prog 77).f call [x0,x1,x2,x3] H=zBf call x0 x1 x2 x3 H:=
 r7 Tryz.func77 (D:=fun L H=>zu0 call (G L 0) (G L 1) (G L 2) (G L 3) H)
 (p0 (q0 (q0 (q0 qS (q0 (r8 (pT (D:=fun k12 L H=>qrj call (fun x9 H=>zco call (G L 2) (G L 8) x9 H) (G L 1) (G L 3) (G L 4) k12 (G L 9) (G L 10) H) (fun k12=>p0 qS))) qS)) qS) qS))
theorem zkl:(aP Tryz.prog 182).f call [x0,x1] H=zDe call x0 x1 H:=
 r7 Tryz.func182 (D:=fun L H=>zkm call (G L 0) (G L 1) H)
 (p0 (q0 (q0 (q0 (q0 qS (q0 (r8 (pT (D:=fun k27 L H=>qqy call (fun H=>qyg call (G L 0) (G L 4) (G L 5) H) (G L 0) (G L 35) (G L 36) k27 (G L 37) H) (fun k27=>p0 qS))) qS)) qS) qS) qS))
theorem zld:(aP Tryz.prog 117).f call [x0] H=zCd call x0 H:=
 r7 Tryz.func117 (D:=fun L H=>zuf call (G L 0) H)
 (p0 (q0 (q0 (q0 qS (q0 (r8 (pT (D:=fun k5 L H=>q2s call (fun x2 H=>.ok x2 H) (fun H=>zqw call H) (G L 1) (G L 14) (G L 15) k5 (G L 16) H) (fun k5=>p0 qS))) qS)) qS) qS))
theorem zlo:(aP Tryz.prog 66).f call [x0,x1] H=zBs call x0 x1 H:=
 r7 Tryz.func66 (D:=fun L H=>zum call (G L 0) (G L 1) H)
 (p0 (q0 (q0 qS (q0 (r8 (pT (D:=fun k2 L H=>q2v call (fun x4 H=>.ok x4 H) (fun H=>zbx call H) (G L 1) (G L 2) k2 (G L 5) H) (fun k2=>p0 qS))) qS)) qS))
theorem zj2:(aP Tryz.prog 55).f call [x0,x1] H=zEk call x0 x1 H:=
 r7 Tryz.func55 (D:=fun L H=>zs9 call (G L 0) (G L 1) H)
 (p0 (q0 (q0 (p0 (E:=fun L H=>q9o call (G L 2) (G L 3) H) qS) qS) qS))
theorem zje:(aP Tryz.prog 59).f call [x0] H=zFs call x0 H:=
 r7 Tryz.func59 (D:=fun L H=>zjf call (G L 0) H)
 (p0 qS)
theorem zjm:(aP Tryz.prog 30).f call [x0] H=zFk call x0 H:=
 r7 Tryz.func30 (D:=fun L H=>zss call (G L 0) H)
 (p0 qS)
theorem zk5:(aP Tryz.prog 138).f call [x0,x1,x2] H=zCm call x0 x1 x2 H:=
 r7 Tryz.func138 (D:=fun L H=>zt4 call (G L 0) (G L 1) (G L 2) H)
 (p0 qS)
theorem zk1:(aP Tryz.prog 142).f call [x0] H=zCp call x0 H:=
 r7 Tryz.func142 (D:=fun L H=>zt2 call (G L 0) H)
 (p0 qS)
theorem zli:(aP Tryz.prog 111).f call [x0,x1,x2] H=zBx call x0 x1 x2 H:=
 r7 Tryz.func111 (D:=fun L H=>zlj call (G L 0) (G L 1) (G L 2) H)
 (p0 qS)
theorem zkn:(aP Tryz.prog 181).f call [x0,x1] H=zDd call x0 x1 H:=
 r7 Tryz.func181 (D:=fun L H=>ztq call (G L 0) (G L 1) H)
 (p0 qS)
theorem zkd:(aP Tryz.prog 169).f call [x0,x1] H=zDn call x0 x1 H:=
 r7 Tryz.func169 (D:=fun L H=>ztj call (G L 0) (G L 1) H)
 (p0 qS)
theorem zkz:(aP Tryz.prog 144).f call [x0,x1] H=zCr call x0 x1 H:=
 r7 Tryz.func144 (D:=fun L H=>zt0 call (G L 0) (G L 1) H)
 (p0 qS)
theorem zl4:(aP Tryz.prog 120).f call [x0] H=zBd call x0 H:=
 r7 Tryz.func120 (D:=fun L H=>zl5 call (G L 0) H)
 (p0 qS)
theorem zko:(aP Tryz.prog 171).f call [x0] H=zDc call x0 H:=
 r7 Tryz.func171 (D:=fun L H=>ztr call (G L 0) H)
 (p0 qS)
theorem zmi:(aP Tryz.prog 47).f call [x0] H=zAn call x0 H:=
 r7 Tryz.func47 (D:=fun L H=>zvc call (G L 0) H)
 (p0 qS)
theorem zkp:(aP Tryz.prog 141).f call [x0] H=zDb call x0 H:=
 r7 Tryz.func141 (D:=fun L H=>zts call (G L 0) H)
 (p0 qS)
theorem zlq:(aP Tryz.prog 91).f call [x0] H=zBq call x0 H:=
 r7 Tryz.func91 (D:=fun L H=>zuo call (G L 0) H)
 (p0 qS)
theorem zjx:(aP Tryz.prog 8).f call [x0,x1] H=zFa call x0 x1 H:=
 r7 Tryz.func8 (D:=fun L H=>zs3 call (G L 0) (G L 1) H)
 (p0 (q0 (q0 (p0 (E:=fun L H=>q9f call (G L 1) (G L 2) H) (q0 (q0 (p0 (E:=fun L H=>qfg call (G L 7) H) qS) (q0 (r8 (p0 (E:=fun L H=>q9h call (fun x7 H=>qfg call x7 H) (G L 2) (G L 19) (G L 20) (G L 7) (G L 21) H) (pT (D:=fun k5 L H=>qff call (fun x7 H=>qfg call x7 H) (G L 2) (G L 19) (G L 20) k5 (G L 7) (G L 21) H) (fun k5=>p0 (q0 (q0 (p0 (E:=fun L H=>qxu call (fun x7 pJ H=>qff call (fun x7 H=>qfg call x7 H) (G L 2) (G L 19) (G L 20) k5 x7 pJ H) (G L 2) (G L 7) (G L 19) (G L 21) H) (q0 (p0 (E:=fun L H=>qhq call (fun x7 pJ H=>qff call (fun x7 H=>qfg call x7 H) (G L 2) (G L 19) (G L 20) k5 x7 pJ H) (G L 7) (G L 21) H) qS) (r8 (q0 (q0 (q0 (p0 (E:=fun L H=>qxv call (fun x7 pJ H=>qff call (fun x7 H=>qfg call x7 H) (G L 2) (G L 19) (G L 20) k5 x7 pJ H) (G L 2) (G L 7) (G L 9) (G L 10) (G L 21) H) (q0 (r8 (p0 (E:=fun L H=>qxz call (fun x7 H=>qhq call (fun x7 pJ H=>qff call (fun x7 H=>qfg call x7 H) (G L 2) (G L 19) (G L 20) k5 x7 pJ H) x7 (G L 21) H) (G L 9) (G L 36) (G L 37) (G L 7) (G L 38) H) (pT (D:=fun k22 L H=>qip call (fun x7 H=>qhq call (fun x7 pJ H=>qff call (fun x7 H=>qfg call x7 H) (G L 2) (G L 19) (G L 20) k5 x7 pJ H) x7 (G L 21) H) (G L 9) (G L 36) (G L 37) k22 (G L 7) (G L 38) H) (fun k22=>p0 (q0 (q0 (p0 (E:=fun L H=>qxw call (fun x7 x38 H=>qip call (fun x7 H=>qhq call (fun x7 pJ H=>qff call (fun x7 H=>qfg call x7 H) (G L 2) (G L 19) (G L 20) k5 x7 pJ H) x7 (G L 21) H) (G L 9) (G L 36) (G L 37) k22 x7 x38 H) (G L 7) (G L 9) (G L 36) (G L 38) H) (q0 (p0 (E:=fun L H=>qxx call (fun x7 x38 H=>qip call (fun x7 H=>qhq call (fun x7 pJ H=>qff call (fun x7 H=>qfg call x7 H) (G L 2) (G L 19) (G L 20) k5 x7 pJ H) x7 (G L 21) H) (G L 9) (G L 36) (G L 37) k22 x7 x38 H) (G L 7) (G L 38) H) qS) qS)) qS) qS))) (fun _ _=>by kernel_rfl))) qS)) qS) qS) qS)))) qS) qS))) (fun _ _=>by kernel_rfl))) qS)) qS)) qS) qS))
theorem zjg:(aP Tryz.prog 60).f call [x0] H=zFr call x0 H:=
 r7 Tryz.func60 (D:=fun L H=>qn2 call 2 nO iA (G L 0) H)
 (p0 (q0 (q0 (p0 (E:=fun L H=>q1l call 2 nO iA (G L 0) H) (q0 (p0 (E:=fun L H=>qkb call 2 nO iA (G L 0) H) qS) (q0 (r8 (p0 (E:=fun L H=>zh2 call 2 nO iA (fun x2 H=>.ok x2 H) (fun H=>qkb call 2 nO iA (G L 0) H) (G L 0) (G L 3) H) (pT (D:=fun k1 L H=>qnh call 2 nO iA (fun x2 H=>.ok x2 H) (fun H=>qkb call 2 nO iA (G L 0) H) (G L 0) k1 (G L 3) H) (fun k1=>p0 (q0 (p0 (E:=fun L H=>q1m call 2 nO iA (fun x2 H=>.ok x2 H) (fun x3 H=>qnh call 2 nO iA (fun x2 H=>.ok x2 H) (fun H=>qkb call 2 nO iA (G L 0) H) (G L 0) k1 x3 H) (G L 0) (G L 3) H) (q0 (p0 (E:=fun L H=>zh0 call 2 nO iA (fun x3 H=>qnh call 2 nO iA (fun x2 H=>.ok x2 H) (fun H=>qkb call 2 nO iA (G L 0) H) (G L 0) k1 x3 H) (G L 3) H) qS) (r8 (q0 (pB (q0 (q0 (p0 (E:=fun L H=>qfa call 2 nO iA (fun x2 H=>.ok x2 H) (G L 0) (G L 3) H) qS) (q0 (r8 (p0 (E:=fun L H=>q1p call 2 nO iA (fun x3 H=>qfa call 2 nO iA (fun x2 H=>.ok x2 H) (G L 0) x3 H) (G L 0) (G L 4) (G L 3) (G L 5) H) (pT (D:=fun k15 L H=>qf2 call 2 nO iA (fun x3 H=>qfa call 2 nO iA (fun x2 H=>.ok x2 H) (G L 0) x3 H) (G L 0) (G L 4) k15 (G L 3) (G L 5) H) (fun k15=>p0 (q0 (p0 (E:=fun L H=>q1n call 2 nO iA (fun x3 x5 H=>qf2 call 2 nO iA (fun x3 H=>qfa call 2 nO iA (fun x2 H=>.ok x2 H) (G L 0) x3 H) (G L 0) (G L 4) k15 x3 x5 H) (G L 0) (G L 3) (G L 4) (G L 5) H) (q0 (p0 (E:=fun L H=>qni call 2 nO iA (fun x3 x5 H=>qf2 call 2 nO iA (fun x3 H=>qfa call 2 nO iA (fun x2 H=>.ok x2 H) (G L 0) x3 H) (G L 0) (G L 4) k15 x3 x5 H) (G L 3) (G L 5) H) qS) qS)) qS))) (fun _ _=>by kernel_rfl))) qS)) qS) qS) qS)))) qS))) (fun _ _=>by kernel_rfl))) qS))) qS) qS))
theorem zku:(aP Tryz.prog 149).f call [x0,x1,x2,x3] H=zCw call x0 x1 x2 x3 H:=
 r7 Tryz.func149 (D:=fun L H=>ztx call (G L 0) (G L 1) (G L 2) (G L 3) H)
 (p0 (q0 (q0 (r8 (pT (D:=fun k5 L H=>qoz call (fun H=>.ok (.aY []) H) (fun H=>.ok (.aY []) H) (G L 0) (G L 1) (G L 2) (G L 3) (G L 5) (G L 16) k5 (G L 17) H) (fun k5=>p0 (q0 (q0 (q0 (qS) (r8 (q0 (q0 (q0 (r8 (pT (D:=fun k14 L H=>qle call (fun H=>.ok (.aY []) H) (fun H=>q2i call (fun kF H=>qoz call (fun H=>.ok (.aY []) H) (fun H=>.ok (.aY []) H) (G L 0) (G L 1) (G L 2) (G L 3) (G L 5) (G L 16) k5 kF H) (G L 17) H) (G L 0) (G L 1) (G L 5) (G L 6) (G L 54) k14 (G L 55) H) (fun k14=>p0 (q0 (q0 (q0 (qS) (r8 (q0 (q0 (pB (q0 (q0 qS qS) qS) qS) qS) qS))) qS) qS)))) qS) (q0 (r8 (pT (D:=fun k39 L H=>qld call (fun H=>qym call (fun H=>.ok (.aY []) H) (fun kF H=>qoz call (fun H=>.ok (.aY []) H) (fun H=>.ok (.aY []) H) (G L 0) (G L 1) (G L 2) (G L 3) (G L 5) (G L 16) k5 kF H) (G L 0) (G L 1) (G L 5) (G L 6) (G L 17) H) (G L 3) (G L 5) (G L 6) (G L 23) (G L 24) k39 (G L 25) H) (fun k39=>p0 (q0 (q0 (q0 (qS) qS) qS) qS)))) qS)) qS))) qS) qS)))) qS) qS))
theorem zjn:(aP Tryz.prog 28).f call [x0,x1] H=zFj call x0 x1 H:=
 r7 Tryz.func28 (D:=fun L H=>zst call (G L 0) (G L 1) H)
 (p0 (q0 (q0 (p0 (E:=fun L H=>qoc call H) qS) (q0 (r8 (p0 (E:=fun L H=>q8x call (fun x4 H=>.ok x4 H) (fun H=>qoc call H) (G L 0) (G L 1) (G L 7) (G L 8) H) (pT (D:=fun k2 L H=>qob call (fun x4 H=>.ok x4 H) (fun H=>qoc call H) (G L 0) (G L 1) (G L 7) k2 (G L 8) H) (fun k2=>p0 (q0 (q0 (p0 (E:=fun L H=>q8u call (fun x4 H=>.ok x4 H) (fun x8 H=>qob call (fun x4 H=>.ok x4 H) (fun H=>qoc call H) (G L 0) (G L 1) (G L 7) k2 x8 H) (G L 0) (G L 1) (G L 8) H) (q0 (p0 (E:=fun L H=>q8v call (fun x8 H=>qob call (fun x4 H=>.ok x4 H) (fun H=>qoc call H) (G L 0) (G L 1) (G L 7) k2 x8 H) (G L 8) H) qS) qS)) qS) qS))) (fun _ _=>by kernel_rfl))) qS)) qS))
theorem zjd:(aP Tryz.prog 62).f call [x0,x1] H=zFt call x0 x1 H:=
 r7 Tryz.func62 (D:=fun L H=>zsm call (G L 0) (G L 1) H)
 (p0 (q0 (q0 (p0 (E:=fun L H=>qn8 call H) qS) (q0 (r8 (p0 (E:=fun L H=>q8j call (fun x4 H=>.ok x4 H) (fun H=>qn8 call H) (G L 0) (G L 3) (G L 5) H) (pT (D:=fun k2 L H=>qn7 call (fun x4 H=>.ok x4 H) (fun H=>qn8 call H) (G L 0) (G L 3) k2 (G L 5) H) (fun k2=>p0 (q0 (p0 (E:=fun L H=>q8g call (fun x4 H=>.ok x4 H) (fun x5 H=>qn7 call (fun x4 H=>.ok x4 H) (fun H=>qn8 call H) (G L 0) (G L 3) k2 x5 H) (G L 0) (G L 3) (G L 5) H) (q0 (p0 (E:=fun L H=>q8h call (fun x5 H=>qn7 call (fun x4 H=>.ok x4 H) (fun H=>qn8 call H) (G L 0) (G L 3) k2 x5 H) (G L 5) H) qS) qS)) qS))) (fun _ _=>by kernel_rfl))) qS)) qS))
theorem zjv:(aP Tryz.prog 11).f call [x0] H=zFc call x0 H:=
 r7 Tryz.func11 (D:=fun L H=>zs1 call (G L 0) H)
 (p0 (q0 (q0 (q0 (p0 (E:=fun L H=>qol call (G L 3) H) qS) (q0 (r8 (p0 (E:=fun L H=>q9e call (fun x3 H=>qol call x3 H) (G L 0) (G L 3) (G L 4) H) (pT (D:=fun k1 L H=>qok call (fun x3 H=>qol call x3 H) (G L 0) k1 (G L 3) (G L 4) H) (fun k1=>p0 (q0 (p0 (E:=fun L H=>qxt call (fun x3 x4 H=>qok call (fun x3 H=>qol call x3 H) (G L 0) k1 x3 x4 H) (G L 0) (G L 3) (G L 4) H) (q0 (p0 (E:=fun L H=>q9c call (fun x3 x4 H=>qok call (fun x3 H=>qol call x3 H) (G L 0) k1 x3 x4 H) (G L 3) (G L 4) H) qS) qS)) qS))) (fun _ _=>by kernel_rfl))) qS)) qS) qS))
theorem q2b:(aP Tryz.prog 3).f call [x0,x1] H=zEz call x0 x1 H:=
 r7 Tryz.func3 (D:=fun L H=>zs4 call (G L 0) (G L 1) H)
 (p0 (q0 (q0 (p0 (E:=fun L H=>qx0 call (G L 1) (G L 2) H) (p0 (E:=fun L H=>qkg call (G L 1) (G L 2) H) (q0 (p0 (E:=fun L H=>qx1 call (G L 1) (G L 5) H) (p0 (E:=fun L H=>qkh call (G L 1) (G L 5) H) (q0 (p0 (E:=fun L H=>qx2 call (G L 1) (G L 5) (G L 7) (G L 8) H) (p0 (E:=fun L H=>qqw call (G L 1) (G L 5) (G L 7) (G L 8) H) qS) (fun L H=>by rw[qoo])) qS)) (fun L H=>by rw[qon])) qS)) (fun L H=>by rw[qom])) qS) qS))
theorem qnz:(aP Tryz.prog 123).f call [x0] H=jJ call x0 H:=
 r7 Tryz.func123 (D:=fun L H=>qhf call (G L 0) H)
 (p0 (q0 (q0 (q0 qS (q0 (r8 (pT (D:=fun k1 L H=>qd2 call (fun x2 H=>.ok x2 H) (fun H=>qfr call (G L 0) H) (G L 0) k1 (G L 3) H) (fun k1=>p0 (q0 (q0 qS (r8 (q0 (pB (q0 (q0 qS (q0 (r8 (pT (D:=fun k15 L H=>qdc call (fun x3 H=>qe1 call (fun x2 H=>.ok x2 H) (G L 0) x3 H) (G L 0) (G L 4) k15 (G L 3) (G L 5) H) (fun k15=>p0 qS))) qS)) qS) qS) qS))) qS)))) qS)) qS) qS))
theorem zj6:(aP Tryz.prog 25).f call [x0,x1] H=zEc call x0 x1 H:=
 r7 Tryz.func25 (D:=fun L H=>ztd call (G L 0) (G L 1) H)
 (p0 (q0 (q0 (q0 (p0 (E:=fun L H=>qyc call (G L 2) (G L 3) (G L 4) (G L 6) H) (p0 (E:=fun L H=>qki call (G L 2) (G L 3) (G L 4) (G L 6) H) (q0 (q0 (q0 (p0 (E:=fun L H=>qqx call (G L 3) (G L 4) (G L 7) (G L 8) H) (p0 (E:=fun L H=>qkj call (G L 3) (G L 4) (G L 7) (G L 8) H) qS) (fun L H=>by rw[qot])) qS) qS) qS)) (fun L H=>by rw[qor])) qS) qS) qS))
theorem zj8:(aP Tryz.prog 199).f call [x0,x1] H=zDs call x0 x1 H:=
 r7 Tryz.func199 (D:=fun L H=>ztf call (G L 0) (G L 1) H)
 (p0 (q0 (q0 qS (q0 (r8 (pT (D:=fun k2 L H=>qug call (fun x4 H=>.ok x4 H) (fun H=>q9x call H) (G L 0) (G L 1) (G L 7) k2 (G L 8) H) (fun k2=>p0 qS))) qS)) qS))
theorem zkr:(aP Tryz.prog 137).f call [x0,x1,x2] H=zCz call x0 x1 x2 H:=
 r7 Tryz.func137 (D:=fun L H=>ztu call (G L 0) (G L 1) (G L 2) H)
 (p0 (q0 (q0 qS (q0 (r8 (pT (D:=fun k2 L H=>quh call (fun x6 x7 H=>.ok (.aY [x6,x7]) H) (fun x6 H=>zqe call x6 H) (G L 0) (G L 1) (G L 11) (G L 12) k2 (G L 6) (G L 13) H) (fun k2=>p0 qS))) qS)) qS))
theorem zk9:(aP Tryz.prog 131).f call [x0] H=zCi call x0 H:=
 r7 Tryz.func131 (D:=fun L H=>zt8 call (G L 0) H)
 (p0 (q0 (q0 (q0 qS (q0 (r8 (pT (D:=fun k8 L H=>q2o call (fun x2 H=>.ok x2 H) (fun H=>zaz call (G L 1) H) (G L 16) (G L 17) k8 (G L 18) H) (fun k8=>p0 qS))) qS)) qS) qS))
theorem zka:(aP Tryz.prog 227).f call [x0,x1] H=zDq call x0 x1 H:=
 r7 Tryz.func227 (D:=fun L H=>ztg call (G L 0) (G L 1) H)
 (p0 (q0 (r8 (pT (D:=fun k2 L H=>q2c call (fun H=>.ok (.aY []) H) (fun H=>.ok (.aY []) H) (G L 0) (G L 5) (G L 6) k2 (G L 7) H) (fun k2=>p0 qS))) qS))
theorem zl6:(aP Tryz.prog 92).f call [x0] H=zBc call x0 H:=
 r7 Tryz.func92 (D:=fun L H=>zu3 call (G L 0) H)
 (p0 (q0 (q0 (q0 qS (q0 (r8 (pT (D:=fun k2 L H=>q2x call (fun x3 H=>zq8 call x3 H) (G L 6) (G L 7) k2 (G L 3) (G L 8) H) (fun k2=>p0 qS))) qS)) qS) qS))
theorem zj0:(aP Tryz.prog 83).f call [x0,x1] H=zEp call x0 x1 H:=
 r7 Tryz.func83 (D:=fun L H=>zs7 call (G L 0) (G L 1) H)
 (p0 (q0 (q0 (p0 (E:=fun L H=>q9m call (G L 2) (G L 3) H) qS) qS) qS))
theorem zjh:(aP Tryz.prog 61).f call [x0,x1] H=zFq call x0 x1 H:=
 r7 Tryz.func61 (D:=fun L H=>zsn call (G L 0) (G L 1) H)
 (p0 qS)
theorem zk6:(aP Tryz.prog 136).f call [x0,x1,x2,x3] H=zCl call x0 x1 x2 x3 H:=
 r7 Tryz.func136 (D:=fun L H=>zt5 call (G L 0) (G L 1) (G L 2) (G L 3) H)
 (p0 qS)
theorem zkk:(aP Tryz.prog 65).f call [x0,x1] H=zDf call x0 x1 H:=
 r7 Tryz.func65 (D:=fun L H=>ztp call (G L 0) (G L 1) H)
 (p0 qS)
theorem zjo:(aP Tryz.prog 29).f call [x0,x1] H=zFi call x0 x1 H:=
 r7 Tryz.func29 (D:=fun L H=>zsu call (G L 0) (G L 1) H)
 (p0 qS)
theorem zk0:(aP Tryz.prog 143).f call [x0] H=zCq call x0 H:=
 r7 Tryz.func143 (D:=fun L H=>zt1 call (G L 0) H)
 (p0 qS)
theorem zjw:(aP Tryz.prog 10).f call [x0] H=zFb call x0 H:=
 r7 Tryz.func10 (D:=fun L H=>zs2 call (G L 0) H)
 (p0 qS)
theorem zkg:(aP Tryz.prog 213).f call [x0] H=zDk call x0 H:=
 r7 Tryz.func213 (D:=fun L H=>ztl call (G L 0) H)
 (p0 qS)
theorem zla:(aP Tryz.prog 121).f call [x0] H=zCg call x0 H:=
 r7 Tryz.func121 (D:=fun L H=>zt9 call (G L 0) H)
 (p0 qS)
theorem zlg:(aP Tryz.prog 113).f call [x0,x1] H=zBz call x0 x1 H:=
 r7 Tryz.func113 (D:=fun L H=>zuh call (G L 0) (G L 1) H)
 (p0 qS)
theorem zlu:(aP Tryz.prog 88).f call [x0] H=zBn call x0 H:=
 r7 Tryz.func88 (D:=fun L H=>zur call (G L 0) H)
 (p0 qS)
theorem zmk:(aP Tryz.prog 27).f call [x0] H=zAe call x0 H:=
 r7 Tryz.func27 (D:=fun L H=>zve call (G L 0) H)
 (p0 qS)
theorem zl0:(aP Tryz.prog 79).f call [x0] H=zBh call x0 H:=
 r7 Tryz.func79 (D:=fun L H=>zux call (G L 0) H)
 (p0 qS)
theorem zlk:(aP Tryz.prog 110).f call [x0] H=zBw call x0 H:=
 r7 Tryz.func110 (D:=fun L H=>zuj call (G L 0) H)
 (p0 qS)
end Go.Di
end
noncomputable section
namespace Go.Di
open Go.Ev Go.Proofs
set_option maxRecDepth 100000
theorem p6{P:Program}{d n:Nat}{call:Ev.Call}{K:Kt d}{f:Operand}{ps:Array Tmp}{sa bd:Code}(hn:(j5 sa&&j5 bd)=true):Lk P d n call (.rangeFunc f ps sa bd) K (fun L H=>fin (endLoop H.nx (qf4 call ((aH d n f).f L) [.yield H.nx] (aS H (.loop true none d n L ps.toList sa bd))) L) K):=fun L H=>by
 have e:den P d n (.rangeFunc f ps sa bd)=⟨fun call L H=>endLoop H.nx (qf4 call ((aH d n f).f L) [.yield H.nx] (aS H (.loop true none d n L ps.toList sa bd))) L⟩:=by simp only[den,hn]
 rw[e]
def qjc(n:Nat):Code->LP
 | .seq a b=>match qjc n a with
  |⟨0,_,_,_⟩=>qjc n b
  |p=>p
 | .block _ b=>qjc n b
 | .rangeFunc _ ps sa bd=>⟨n,ps.toList,sa,bd⟩
 |_=>⟨0,[],.skip,.skip⟩
def LAc:LP:=qjc 13 (codeOf Tryz.f231)
def LOc:LP:=qjc 53 (codeOf Tryz.f89)
theorem qn6(call:Ev.Call)(x0 x1:AV)(H:Hp):(aP Tryz.prog 231).f call [x0,x1] H=jN LAc call x0 x1 H:=
 r7 Tryz.func231 (D:=fun L H=>qhp LAc call L (G L 0) (G L 1) H)
 (p0 (q0 (q0 (p0 (E:=fun L H=>qf7 call (G L 2) H) qS) (q0 (r8 (p0 (E:=fun L H=>qho LAc call L (G L 6) H) (p6 (by kernel_rfl)))) qS)) qS))
theorem zlt(call:Ev.Call)(x0:AV)(H:Hp):(aP Tryz.prog 89).f call [x0] H=zBo LOc call x0 H:=
 r7 Tryz.func89 (D:=fun L H=>zuq LOc call L (G L 0) H)
 (p0 (q0 (q0 (p0 (E:=fun L H=>qy6 LOc call L (G L 1) (G L 2) H) (q0 (q0 (p0 (E:=fun L H=>qlm LOc call L (G L 1) H) (q0 (p0 (E:=fun L H=>qy9 call (G L 2) (G L 5) H) qS) (q0 (r8 (p0 (E:=fun L H=>zls LOc call L (G L 25) H) (p6 (by kernel_rfl)))) qS))) qS) qS)) qS) qS))
theorem quw{P:Program}{call:Ev.Call}{l:Nat}{v:AV}{H:Hp}{L L1:TT AV 2}(p:LP)(h:H.get l=p.blk true L)(hps:(Nat.beq p.ps.length 1&&p.ps.all fun q=>Nat.blt q p.n)=true)(has:(den P 2 p.n p.aC).f call (yH ((setter 2 p.n).f L .undef) p.ps [v]) H=.ok .normal L1 H):zV P call l [v] H=endRound l ((den P 2 p.n p.bd).f call L1 (H.put l (p.blk false L))):=by unfold zV;have hl:([v]:List AV).length=1:=rfl;simp only[h,LP.blk,hl,hps,cond_true,has]
theorem qf0(l:Nat)(r:Rc 2):endRound l r=fin r (fun e L H=>endRound l (.ok e L H)):=by cases r<;>rfl
theorem qnu(call:Ev.Call)(L:TT AV 2)(l:Nat)(v:AV)(H:Hp)(h:H.get l=LAc.blk true L):zV Tryz.prog call l [v] H=d9 call l L (G L 2) v (H.put l (LAc.blk false L)):=by rw[quw LAc h (by kernel_rfl) (L1:=(setter 2 5).f (yH ((setter 2 13).f L .undef) [7] [v]) v) (by kernel_rfl),qf0];exact(p0 (c:=LAc.bd) (P:=Tryz.prog) (n:=13) (E:=fun M H=>d9 call l L (G M 2) (G M 5) H) qS (fun M H=>by kernel_rfl) _ _).trans (by kernel_rfl)
theorem zb8(call:Ev.Call)(L:TT AV 2)(l:Nat)(v:AV)(H:Hp)(h:H.get l=LOc.blk true L):zV Tryz.prog call l [v] H=rZ call l L (G L 5) v (H.put l (LOc.blk false L)):=by
 rw[quw LOc h (by kernel_rfl) (L1:=(setter 2 6).f (yH ((setter 2 53).f L .undef) [26] [v]) v) (by kernel_rfl),qf0];have key:Lk Tryz.prog 2 53 call LOc.bd (fun e L H=>endRound l (.ok e L H)) (fun M H=>rZ call l L (G M 5) (G M 6) H):=
  p0 (c:=LOc.bd) (r8 (q0 (p0 (E:=fun M H=>qg4 call l L (G M 5) (G M 6) H) qS) (q0 (r8 (p0 (E:=fun M H=>qzb call (fun H=>qg4 call l L (G M 5) (G M 6) H) (G M 5) (G M 27) (G M 28) (G M 29) H) (pT (D:=fun k27 M H=>qit call (fun H=>qg4 call l L (G M 5) (G M 6) H) (G M 5) (G M 27) (G M 28) k27 (G M 29) H) (fun k27=>p0 (q0 (q0 (p0 (E:=fun M H=>qy7 call (fun x29 H=>qit call (fun H=>qg4 call l L (G M 5) (G M 6) H) (G M 5) (G M 27) (G M 28) k27 x29 H) (G M 5) (G M 27) (G M 29) H) (q0 (p0 (E:=fun M H=>qy8 call (fun x29 H=>qit call (fun H=>qg4 call l L (G M 5) (G M 6) H) (G M 5) (G M 27) (G M 28) k27 x29 H) (G M 29) H) qS) qS)) qS) qS))) (fun _ _=>by kernel_rfl))) qS))) (fun M H=>by kernel_rfl)
 exact(key _ _).trans (by kernel_rfl)
def zK:LP:=qjc 13 (codeOf Tryz.f125)
theorem zi9(call:Ev.Call)(x0 x1:AV)(H:Hp):(aP Tryz.prog 125).f call [x0,x1] H=aF6 zK call x0 x1 H:=
 r7 Tryz.func125 (D:=fun L H=>zja zK call L (G L 0) (G L 1) H)
 (p0 (q0 (q0 (p0 (E:=fun L H=>q18 call (G L 2) H) qS) (q0 (r8 (p0 (E:=fun L H=>zi8 zK call L (G L 6) H) (p6 (by kernel_rfl)))) qS)) qS))
def aCy(P:Program)(call:Ev.Call)(p:LP)(l:Nat):Kt 2:=fun e L1 H1=>match e with
 | .normal=>(match H1.get l with
  | .loop true none d' n' L' ps' as' bd'=>endRound l ((den P 2 p.n p.bd).f call L1 (H1.put l (.loop false none d' n' L' ps' as' bd')))
  |_=>.bad)
 |_=>.bad
theorem q58{P:Program}{call:Ev.Call}{l:Nat}{v:AV}{H:Hp}{L:TT AV 2}(p:LP)(h:H.get l=p.blk true L)(hps:(Nat.beq p.ps.length 1&&p.ps.all fun q=>Nat.blt q p.n)=true):zV P call l [v] H=fin ((den P 2 p.n p.aC).f call (yH ((setter 2 p.n).f L .undef) p.ps [v]) H) (aCy P call p l):=by
 unfold zV;have hl:([v]:List AV).length=1:=rfl;simp only[h,LP.blk,hl,hps,cond_true];cases (den P 2 p.n p.aC).f call (yH ((setter 2 p.n).f L .undef) p.ps [v]) H with
 |bad=>rfl
 |ok e L1 H1=>cases e<;>rfl
theorem q8f(call:Ev.Call)(L:TT AV 2)(l:Nat)(x y:AV)(H:Hp)(h:H.get l=zK.blk true L)(hl:l<H.nx):zV Tryz.prog call l [.agg [x,y]] H=qF call l L (G L 2) (.ptr H.nx 0) (((aS H (aB 0 [.str 0 0,.str 0 0])).put H.nx (aB 0 [x,y])).put l (zK.blk false L)):=by
 rw[q58 zK h (by kernel_rfl)];refine(p0 (c:=zK.aC) (P:=Tryz.prog) (n:=13) (K:=aCy Tryz.prog call zK l) (E:=fun M H=>vq (.new (.ptr H.nx 0) (aB 0 [.str 0 0,.str 0 0])) H fun a3 H=>ve (eB 2 H a3 (G M 7)) fun _ H=>aCy Tryz.prog call zK l .normal ((setter 2 5).f M a3) H) qS (fun M H=>by kernel_rfl) _ _).trans ?_;have gM:G (yH ((setter 2 zK.n).f L AV.undef) zK.ps [.agg [x,y]]) 7=.agg [x,y]:=by kernel_rfl
 have hg:((aS H (aB 0 [.str 0 0,.str 0 0])).put H.nx (aB 0 [x,y])).get l=zK.blk true L:=by rw[dJ _ _ _ _ (by omega),qbt _ _ _ hl];exact h
 simp only[];rw[gM];simp(disch:=first|omega|exact ti rfl|simp only[np,nq];first|done|omega)only[go_sem,rB,rI,rK,rL,rN,rS,r6];unfold aCy;simp only[hg,LP.blk];rw[qf0];exact(p0 (c:=zK.bd) (P:=Tryz.prog) (n:=13) (E:=fun M H=>qF call l L (G M 2) (G M 5) H) qS (fun M H=>by kernel_rfl) _ _).trans (by kernel_rfl)
end Go.Di
end
