/-
 For TablesOf: the direct functions are what the evaluator computes, part 1. No conditions beyond those that each theorem states.
-/
import Derived.Test.YtlanjbacddlobaaGreatConA
import Derived.Test.YtlanjbacddlobaaGreatConB
import Derived.Test.YtlanjbacddlobaaGreatConC
import Derived.Test.YtlanjbacddlobaaGreatProg
import Derived.KernelRfl
set_option linter.unusedSimpArgs false
set_option linter.unusedVariables false
noncomputable section
namespace Go.Di
open Go.Ev Go.Proofs
set_option maxRecDepth 100000
variable (O:Ev.Call) (x0 x1 x2 x3 x4 x5 x6 x7:AV) (H:Hp)
def xL(O:Ev.Call)(gZ:Nat)(L:TT AV (eF (Tryz.f3.ntmps+1))):=fun dV H=>qo7 O (fun x6 H=>.ok x6 H) (fun H=>qo8 O (G L 1) (G L 5) (G L 7) (G L 8) (G L 10) H) (G L 7) (G L 8) (G L 10) gZ dV H
def qpz(O:Ev.Call)(gZ:Nat)(oV:Nat)(L:TT AV (eF (Tryz.f3.ntmps+1))):=fun iB H=>qo5 O (fun H=>qwy O (fun x6 H=>.ok x6 H) (xL O gZ L) (G L 7) (G L 8) (G L 15) (G L 16) (G L 18) H) (G L 16) oV iB H
def zaq(O:Ev.Call)(gZ:Nat)(L:TT AV (eF (Tryz.f3.ntmps+1))):=fun H=>q5h O (fun x6 H=>.ok x6 H) (xL O gZ L) (G L 7) (G L 8) (G L 15) (G L 18) H
def zao(O:Ev.Call)(L:TT AV (eF (Tryz.f3.ntmps+1))):=fun dO H=>qm9 O (G L 1) (G L 5) (G L 7) (G L 8) (G L 9) (G L 10) dO H
def zan(O:Ev.Call)(gZ:Nat)(oV:Nat)(L:TT AV (eF (Tryz.f3.ntmps+1))):=fun H=>qw4 O (qpz O gZ oV L) (G L 16) (G L 23) H
def zam(O:Ev.Call)(gZ:Nat)(oV:Nat)(L:TT AV (eF (Tryz.f3.ntmps+1))):=fun H=>qw3 O (qpz O gZ oV L) (G L 16) (G L 23) H
def xY(O:Ev.Call):=fun(x6:AV) (H:Hp)=>R1.ok x6 H
def ziv(O:Ev.Call)(gZ:Nat)(L:TT AV (eF (Tryz.f3.ntmps+1))):=fun H=>qwy O (xY O) (xL O gZ L) (G L 7) (G L 8) (G L 15) (G L 16) (G L 18) H
def ziu(O:Ev.Call)(aAG:Nat)(L:TT AV (eF (Tryz.f3.ntmps+1))):=fun dO iO H=>qik O (zao O L) (G L 11) aAG dO iO H
def zit(O:Ev.Call)(L:TT AV (eF (Tryz.f3.ntmps+1))):=fun H=>qo8 O (G L 1) (G L 5) (G L 7) (G L 8) (G L 10) H
def q5m(O:Ev.Call)(gZ:Nat)(oV:Nat)(aAq:Nat)(L:TT AV (eF (Tryz.f3.ntmps+1))):=fun x25 H=>qim O (zan O gZ oV L) (G L 16) (G L 23) aAq x25 H
def q5l(O:Ev.Call)(gZ:Nat)(oV:Nat)(uM:Nat)(L:TT AV (eF (Tryz.f3.ntmps+1))):=fun x24 H=>qil O (zam O gZ oV L) (G L 16) (G L 23) uM x24 H
def q5k(O:Ev.Call)(gZ:Nat)(k79:Nat)(L:TT AV (eF (Tryz.f3.ntmps+1))):=fun sS H=>qo6 O (zaq O gZ L) (G L 16) k79 sS H
theorem q9y:(aO Tryz.prog 3).f O [x0,x1,x2] H=zGt O x0 x1 x2 H:=
 pA Tryz.func3 (D:=fun L H=>z4x O (G L 0) (G L 1) (G L 2) H)
 (qS (mA (mA (pT qo9 (fun x L H=>x O (G L 1) (G L 3) (G L 5) H) (qS (mA (pT qpa (fun x L H=>x O (G L 1) (G L 5) (G L 7) H) (qS (mA (pT qpb (fun x L H=>x O (G L 1) (G L 5) (G L 7) (G L 8) (G L 9) H) (qS (mA (mA (pT qpc (fun x L H=>x O (G L 1) (G L 5) (G L 7) (G L 8) (G L 9) (G L 10) (G L 11) H) (qS (mA (mA (pT qpf (fun x L H=>x O (G L 1) (G L 5) (G L 7) (G L 8) (G L 9) (G L 10) (G L 13) H) (qS (mA (pT qph (fun x L H=>x O (G L 1) (G L 5) (G L 7) (G L 8) (G L 10) H) (qS (mA (pT qt9 (fun x L H=>x O (G L 1) (G L 5) (G L 7) (G L 8) (G L 10) H) (qS (mA (pT qko (fun x L H=>x O (G L 1) (G L 5) (G L 7) (G L 8) (G L 9) (G L 10) H) (qS (mA (pT qub (fun x L H=>x O (G L 5) (G L 7) (G L 8) H) (qS (mA (pT qkp (fun x L H=>x O (G L 5) (G L 7) (G L 8) (G L 9) (G L 27) H) (qS (mA (pT qkq (fun x L H=>x O (G L 5) (G L 7) (G L 8) (G L 9) (G L 27) (G L 28) H) (qS (mA (pT quc (fun x L H=>x O (G L 7) (G L 9) (G L 27) (G L 28) H) (qS kB)) kB))) kB))) kB))) (mA (pT qua (fun x L H=>x O (G L 5) (G L 7) (G L 8) (G L 275) H) (qS kB)) kB)))) kB))) (mA (pB (qS (E:=fun L H=>q5t O (xY O) (zit O L) (G L 7) (G L 8) (G L 10) (G L 15) H) (p0 (D:=fun a L H=>qo7 O (xY O) (zit O L) (G L 7) (G L 8) (G L 10) a (G L 15) H) (fun a=>qS (mA (pT qpj (fun x L H=>x O (xY O) (xL O a L) (G L 7) (G L 8) (G L 10) (G L 15) H) (qS (mA (pT qt8 (fun x L H=>x O (xL O a L) (G L 15) H) (qS kB)) (pB (mA (pT qpk (fun x L H=>x O (xY O) (xL O a L) (G L 7) (G L 8) (G L 10) (G L 15) (G L 16) (G L 17) H) (qS (mA (pT qpl (fun x L H=>x O (xY O) (xL O a L) (G L 7) (G L 8) (G L 10) (G L 15) (G L 16) (G L 17) (G L 18) (G L 19) H) (qS (mA (pT qpn (fun x L H=>x O (xY O) (xL O a L) (G L 7) (G L 8) (G L 10) (G L 15) (G L 16) (G L 18) H) (qS (mA (pT qpo (fun x L H=>x O (xY O) (xL O a L) (G L 7) (G L 8) (G L 10) (G L 15) (G L 16) (G L 18) (G L 19) (G L 20) H) (qS (mA (pT qpp (fun x L H=>x O (xY O) (xL O a L) (G L 7) (G L 8) (G L 15) (G L 16) (G L 18) (G L 19) (G L 20) (G L 21) H) (qS (mA (pT qpr (fun x L H=>x O (xY O) (xL O a L) (G L 7) (G L 8) (G L 15) (G L 16) (G L 18) H) (qS (mA (pT qt2 (fun x L H=>x O (xY O) (xL O a L) (G L 7) (G L 8) (G L 15) (G L 16) (G L 18) H) (qS (mA (pT qt5 (fun x L H=>x O (xY O) (xL O a L) (G L 7) (G L 8) (G L 15) (G L 18) H) (qS (mA (pT qt6 (fun x L H=>x O (xY O) (xL O a L) (G L 7) (G L 15) (G L 18) (G L 19) H) (qS (mA (pT qt7 (fun x L H=>x O (xY O) (xL O a L) (G L 15) (G L 258) H) (qS kB)) kB))) kB))) (mA (pB (qS (E:=fun L H=>q5s O (zaq O a L) (G L 16) (G L 26) H) (p0 (D:=fun c L H=>qo6 O (zaq O a L) (G L 16) c (G L 26) H) (fun c=>qS (mA (pT qt3 (fun x L H=>x O (q5k O a c L) (G L 16) (G L 26) H) (qS (mA (pT qt4 (fun x L H=>x O (q5k O a c L) (G L 26) H) (qS kB)) kB))) (mA (pT qkn (fun x L H=>x O (q5k O a c L) (zaq O a L) (G L 16) (G L 26) (G L 236) H) (qS kB)) kB)))) (fun _ _=>by kernel_rfl))) kB)))) (mA (pB (qS (E:=fun L H=>q5q O (ziv O a L) (G L 16) (G L 23) H) (p0 (D:=fun b L H=>qo5 O (ziv O a L) (G L 16) b (G L 23) H) (fun b=>qS (mA (pT qps (fun x L H=>x O (qpz O a b L) (G L 16) (G L 23) H) (qS (mA (pT qt1 (fun x L H=>x O (qpz O a b L) (G L 23) H) (qS kB)) (pB (mA (pT qpv (fun x L H=>x O (qpz O a b L) (G L 16) (G L 23) H) (qS (mA (pT qpy (fun x L H=>x O (qpz O a b L) (G L 16) (G L 23) H) (qS kB)) (mA (pB (qS (E:=fun L H=>qxa O (zan O a b L) (G L 16) (G L 23) (G L 25) H) (p0 (D:=fun d L H=>qim O (zan O a b L) (G L 16) (G L 23) d (G L 25) H) (fun d=>qS (mA (pT qpw (fun x L H=>x O (q5m O a b d L) (G L 16) (G L 23) (G L 25) H) (qS (mA (pT qpx (fun x L H=>x O (q5m O a b d L) (G L 25) H) (qS kB)) kB))) (mA (pT qhh (fun x L H=>x O (q5m O a b d L) (zan O a b L) (G L 16) (G L 23) (G L 25) (G L 216) H) (qS kB)) kB)))) (fun _ _=>by kernel_rfl))) kB)))) (mA (pB (qS (E:=fun L H=>qw9 O (zam O a b L) (G L 16) (G L 23) (G L 24) H) (p0 (D:=fun f L H=>qil O (zam O a b L) (G L 16) (G L 23) f (G L 24) H) (fun f=>qS (mA (pT qpt (fun x L H=>x O (q5l O a b f L) (G L 16) (G L 23) (G L 24) H) (qS (mA (pT qpu (fun x L H=>x O (q5l O a b f L) (G L 24) H) (qS kB)) kB))) (mA (pT qhg (fun x L H=>x O (q5l O a b f L) (zam O a b L) (G L 16) (G L 23) (G L 24) (G L 197) H) (qS kB)) kB)))) (fun _ _=>by kernel_rfl))) kB)))))) (mA (pT qhf (fun x L H=>x O (qpz O a b L) (ziv O a L) (G L 16) (G L 23) (G L 186) H) (qS kB)) kB)))) (fun _ _=>by kernel_rfl))) kB)))) (mA (pT qpq (fun x L H=>x O (xY O) (xL O a L) (G L 7) (G L 8) (G L 15) (G L 16) (G L 18) (G L 181) H) (qS kB)) kB)))) kB))) kB))) (mA (pT qpm (fun x L H=>x O (xY O) (xL O a L) (G L 7) (G L 8) (G L 10) (G L 15) (G L 16) (G L 18) (G L 150) H) (qS kB)) kB)))) kB))) kB))))) (mA (pT qhe (fun x L H=>x O (xY O) (xL O a L) (zit O L) (G L 7) (G L 8) (G L 10) (G L 15) (G L 86) H) (qS kB)) kB)))) (fun _ _=>by kernel_rfl))) kB)))) (mA (pT qpg (fun x L H=>x O (G L 1) (G L 5) (G L 7) (G L 8) (G L 10) (G L 82) H) (qS kB)) kB)))) (mA (pB (qS (E:=fun L H=>qw8 O (zao O L) (G L 11) (G L 13) (G L 14) H) (p0 (D:=fun e L H=>qik O (zao O L) (G L 11) e (G L 13) (G L 14) H) (fun e=>qS (mA (pT qpd (fun x L H=>x O (ziu O e L) (G L 11) (G L 13) (G L 14) H) (qS (mA (pT qpe (fun x L H=>x O (ziu O e L) (G L 13) (G L 14) H) (qS kB)) kB))) (mA (pT qhd (fun x L H=>x O (ziu O e L) (zao O L) (G L 11) (G L 13) (G L 14) (G L 58) H) (qS kB)) kB)))) (fun _ _=>by kernel_rfl))) kB)) kB))) kB) kB))) kB))) kB))) (mA (pT qhc (fun x L H=>x O (G L 1) (G L 3) (G L 5) (G L 38) H) (qS kB)) kB)) kB))
def q9h(O:Ev.Call):=fun H=>zg4 O H
theorem ztj:(aO Tryz.prog 24).f O [x0,x1] H=zHn O x0 x1 H:=
 pA Tryz.func24 (D:=fun L H=>z4h O (G L 0) (G L 1) H)
 (qS (mA (mA (qS (E:=fun L H=>q4y O (G L 0) (G L 1) H) (mA (qS (E:=fun L H=>zg4 O H) kB) (mA (pB (qS (E:=fun L H=>zg6 O (fun x4 H=>.ok x4 H) (q9h O) (G L 0) (G L 1) (G L 5) H) (p0 (D:=fun a L H=>qs6 O (fun x4 H=>.ok x4 H) (q9h O) (G L 0) (G L 1) a (G L 5) H) (fun a=>qS (mA (qS (E:=fun L H=>zg2 O (fun x4 H=>.ok x4 H) (fun x5 H=>qs6 O (fun x4 H=>.ok x4 H) (q9h O) (G L 0) (G L 1) a x5 H) (G L 0) (G L 1) (G L 5) H) (mA (qS (E:=fun L H=>zg3 O (fun x5 H=>qs6 O (fun x4 H=>.ok x4 H) (q9h O) (G L 0) (G L 1) a x5 H) (G L 5) H) kB) kB)) kB))) (fun _ _=>by kernel_rfl))) kB))) kB) kB))
def q9f(O:Ev.Call)(L:TT AV (eF (Tryz.f77.ntmps+1))):=fun x3 H=>zgy O (G L 1) (G L 2) x3 H
theorem ztf:(aO Tryz.prog 77).f O [x0] H=zHr O x0 H:=
 pA Tryz.func77 (D:=fun L H=>z4d O (G L 0) H)
 (qS (mA (mA (mA (qS (E:=fun L H=>zgy O (G L 1) (G L 2) (G L 3) H) kB) (mA (pB (qS (E:=fun L H=>q4p O (q9f O L) (G L 1) (G L 7) (G L 8) (G L 3) (G L 9) H) (p0 (D:=fun a L H=>qfj O (q9f O L) (G L 1) (G L 7) (G L 8) a (G L 3) (G L 9) H) (fun a=>qS (mA (mA (qS (E:=fun L H=>q4o O (fun x3 b H=>qfj O (q9f O L) (G L 1) (G L 7) (G L 8) a x3 b H) (G L 1) (G L 3) (G L 7) (G L 9) H) (mA (qS (E:=fun L H=>qol O (fun x3 b H=>qfj O (q9f O L) (G L 1) (G L 7) (G L 8) a x3 b H) (G L 3) (G L 9) H) kB) kB)) kB) kB))) (fun _ _=>by kernel_rfl))) kB)) kB) kB))
theorem zv0:(aO Tryz.prog 79).f O [x0] H=zBj O x0 H:=
 pA Tryz.func79 (D:=fun L H=>z6q O (G L 0) H)
 (qS (mA (mA (mA (mA (mA (mA kB (mA (pB (p0 (D:=fun b L H=>q0x O (fun x2 H=>.ok x2 H) (fun H=>za9 O H) (G L 4) (G L 26) (G L 27) b (G L 5) (G L 28) H) (fun b=>qS (mA (mA (mA kB (pB (mA (mA (pB (p0 (D:=fun a L H=>qxr O (fun x2 H=>.ok x2 H) (fun x5 H=>q6s O (fun x5 c H=>q0x O (fun x2 H=>.ok x2 H) (fun H=>za9 O H) (G L 4) (G L 26) (G L 27) b x5 c H) x5 (G L 28) H) (G L 4) (G L 7) (G L 34) a (G L 5) (G L 35) H) (fun a=>qS kB))) kB) kB))) kB) kB)))) kB)) kB) kB) kB) kB) kB))
theorem qsy:(aO Tryz.prog 131).f O [x0] H=kG O x0 H:=
 pA Tryz.func131 (D:=fun L H=>qhy O (G L 0) H)
 (qS (mA (mA (mA kB (mA (pB (p0 (D:=fun b L H=>qd3 O (fun x2 H=>.ok x2 H) (fun H=>qf2 O (G L 0) H) (G L 0) b (G L 3) H) (fun b=>qS (mA (mA kB (pB (mA (pD (mA (mA kB (mA (pB (p0 (D:=fun a L H=>qdd O (fun x3 H=>qe3 O (fun x2 H=>.ok x2 H) (G L 0) x3 H) (G L 0) (G L 4) a (G L 3) (G L 5) H) (fun a=>qS kB))) kB)) kB) kB) kB))) kB)))) kB)) kB) kB))
theorem zu3:(aO Tryz.prog 111).f O [x0,x1,x2,x3,x4,x5,x6] H=zCo O x0 x1 x2 x3 x4 x5 x6 H:=
 pA Tryz.func111 (D:=fun L H=>zeh O (G L 0) (G L 1) (G L 2) (G L 3) (G L 4) (G L 5) (G L 6) H)
 (qS (mA (mA (mA (mA (mA (mA (mA (mA kB (mA (pB (p0 (D:=fun a L H=>qfr O (fun b H=>.ok b H) (fun c H=>qfs O (G L 3) (G L 11) c H) (G L 0) (G L 1) (G L 2) (G L 3) (G L 6) (G L 51) a (G L 12) (G L 52) H) (fun a=>qS kB))) kB)) kB) kB) kB) kB) kB) kB) kB))
theorem zvs:(aO Tryz.prog 107).f O [x0] H=zBp O x0 H:=
 pA Tryz.func107 (D:=fun L H=>z6m O (G L 0) H)
 (qS (mA (mA (mA (pT quk (fun x L H=>x O (G L 1) (G L 4) H) (qS (mA (mA kB (mA (pB (p0 (D:=fun a L H=>qxq O (fun x6 H=>zk6 O x6 H) (G L 4) (G L 18) (G L 19) a (G L 6) (G L 20) H) (fun a=>qS kB))) kB)) kB))) kB) kB) kB))
theorem zup:(aO Tryz.prog 139).f O [x0,x1,x2] H=zCz O x0 x1 x2 H:=
 pA Tryz.func139 (D:=fun L H=>z5m O (G L 0) (G L 1) (G L 2) H)
 (qS (mA (mA kB (mA (pB (p0 (D:=fun k2 L H=>q0p O (fun x6 x7 H=>.ok (.bB [x6,x7]) H) (fun x6 H=>z02 O x6 H) (G L 0) (G L 1) (G L 11) (G L 12) k2 (G L 6) (G L 13) H) (fun k2=>qS kB))) kB)) kB))
theorem zwr:(aO Tryz.prog 37).f O [x0,x1,x2] H=zAi O x0 x1 x2 H:=
 pA Tryz.func37 (D:=fun L H=>z7o O (G L 0) (G L 1) (G L 2) H)
 (qS (mA (mA kB (mA (pB (p0 (D:=fun a L H=>q03 O (fun x6 x7 H=>.ok (.bB [x6,x7]) H) (fun H=>zmv O H) (G L 1) (G L 2) (G L 11) (G L 12) a (G L 13) H) (fun a=>qS kB))) kB)) kB))
theorem zu9:(aO Tryz.prog 133).f O [x0] H=zCi O x0 H:=
 pA Tryz.func133 (D:=fun L H=>z5y O (G L 0) H)
 (qS (mA (mA (mA kB (mA (pB (p0 (D:=fun a L H=>za2 O (fun x2 H=>.ok x2 H) (fun H=>zjw O (G L 1) H) (G L 16) (G L 17) a (G L 18) H) (fun a=>qS kB))) kB)) kB) kB))
theorem zwi:(aO Tryz.prog 33).f O [x0,x1,x2] H=zAs O x0 x1 x2 H:=
 pA Tryz.func33 (D:=fun L H=>z7g O (G L 0) (G L 1) (G L 2) H)
 (qS (mA (mA (mA kB (mA (pB (p0 (D:=fun a L H=>zbo O (fun x6 H=>.ok x6 H) (fun H=>zmg O H) (G L 1) (G L 2) (G L 7) a (G L 8) H) (fun a=>qS kB))) kB)) kB) kB))
theorem zu4:(aO Tryz.prog 134).f O [x0] H=zCn O x0 H:=
 pA Tryz.func134 (D:=fun L H=>z5t O (G L 0) H)
 (qS (mA (mA kB (mA (pB (p0 (D:=fun k2 L H=>za1 O (fun x2 H=>.ok x2 H) (fun H=>z1g O H) (G L 6) (G L 7) k2 (G L 8) H) (fun k2=>qS kB))) kB)) kB))
theorem ztd:(aO Tryz.prog 85).f O [x0] H=zHt O x0 H:=
 pA Tryz.func85 (D:=fun L H=>xa9 O (G L 0) H)
 (qS (mA (mA (qS (E:=fun L H=>z0h O (G L 0) H) kB) kB) kB))
theorem zt0:(aO Tryz.prog 10).f O [x0] H=zGw O x0 H:=
 pA Tryz.func10 (D:=fun L H=>z4v O (G L 0) H)
 (qS (mA (mA (qS (E:=fun L H=>zh2 O (G L 0) H) kB) kB) kB))
theorem zvx:(aO Tryz.prog 104).f O [x0,x1,x2,x3,x4,x5,x6] H=zBl O x0 x1 x2 x3 x4 x5 x6 H:=
 pA Tryz.func104 (D:=fun L H=>z6p O (G L 0) (G L 1) (G L 2) (G L 3) (G L 4) (G L 5) (G L 6) H)
 (qS kB)
theorem zve:(aO Tryz.prog 124).f O [x0] H=zCc O x0 H:=
 pA Tryz.func124 (D:=fun L H=>z6d O (G L 0) H)
 (qS kB)
theorem zu1:(aO Tryz.prog 113).f O [x0] H=zCp O x0 H:=
 pA Tryz.func113 (D:=fun L H=>z5s O (G L 0) H)
 (qS kB)
theorem zte:(aO Tryz.prog 83).f O [x0] H=zHs O x0 H:=
 pA Tryz.func83 (D:=fun L H=>z4c O (G L 0) H)
 (qS kB)
theorem zvi:(aO Tryz.prog 81).f O [x0,x1,x2] H=zBx O x0 x1 x2 H:=
 pA Tryz.func81 (D:=fun L H=>zvj O (G L 0) (G L 1) (G L 2) H)
 (qS kB)
theorem zto:(aO Tryz.prog 40).f O [x0,x1,x2,x3] H=zHi O x0 x1 x2 x3 H:=
 pA Tryz.func40 (D:=fun L H=>z4m O (G L 0) (G L 1) (G L 2) (G L 3) H)
 (qS kB)
theorem zva:(aO Tryz.prog 129).f O [x0] H=zCg O x0 H:=
 pA Tryz.func129 (D:=fun L H=>z5z O (G L 0) H)
 (qS kB)
theorem zug:(aO Tryz.prog 156).f O [x0,x1] H=zDg O x0 x1 H:=
 pA Tryz.func156 (D:=fun L H=>z5h O (G L 0) (G L 1) H)
 (qS kB)
theorem zuo:(aO Tryz.prog 141).f O [x0,x1] H=zDa O x0 x1 H:=
 pA Tryz.func141 (D:=fun L H=>z5l O (G L 0) (G L 1) H)
 (qS kB)
theorem ztl:(aO Tryz.prog 47).f O [x0,x1,x2] H=zHl O x0 x1 x2 H:=
 pA Tryz.func47 (D:=fun L H=>z4j O (G L 0) (G L 1) (G L 2) H)
 (qS kB)
theorem zul:(aO Tryz.prog 159).f O [x0] H=zDc O x0 H:=
 pA Tryz.func159 (D:=fun L H=>z5k O (G L 0) H)
 (qS kB)
theorem zvr:(aO Tryz.prog 108).f O [x0] H=zBq O x0 H:=
 pA Tryz.func108 (D:=fun L H=>z6l O (G L 0) H)
 (qS kB)
theorem zvy:(aO Tryz.prog 78).f O [x0] H=zBk O x0 H:=
 pA Tryz.func78 (D:=fun L H=>zvz O (G L 0) H)
 (qS kB)
def qu9(O:Ev.Call)(k5:Nat)(k8:Nat)(L:TT AV (eF (Tryz.f5.ntmps+1))):=fun x10 H=>qqr O (fun H=>qqt O (fun x8 H=>qk2 O (fun H=>quz O (G L 2) (G L 3) H) (G L 3) k5 x8 H) (G L 8) H) (G L 9) k8 x10 H
def qu8(O:Ev.Call)(k61:Nat)(L:TT AV (eF (Tryz.f5.ntmps+1))):=fun x4 H=>qk1 O (fun H=>qqs O (G L 2) (G L 3) H) (G L 1) (G L 3) k61 x4 H
def qu7(O:Ev.Call)(k5:Nat)(L:TT AV (eF (Tryz.f5.ntmps+1))):=fun x8 H=>qk2 O (fun H=>quz O (G L 2) (G L 3) H) (G L 3) k5 x8 H
def znw(O:Ev.Call)(k5:Nat)(k8:Nat)(L:TT AV (eF (Tryz.f5.ntmps+1))):=fun bM H=>q7l O (qu9 O k5 k8 L) (G L 9) (G L 10) bM H
def znv(O:Ev.Call)(k5:Nat)(k8:Nat)(k16:Nat)(L:TT AV (eF (Tryz.f5.ntmps+1))):=fun bM bE H=>qqq O (znw O k5 k8 L) (G L 9) (G L 10) k16 bM bE H
theorem zww:(aO Tryz.prog 5).f O [x0] H=zAc O x0 H:=
 pA Tryz.func5 (D:=fun L H=>z7t O (G L 0) H)
 (qS (mA (mA (pT qqo (fun x L H=>x O (G L 1) (G L 2) (G L 3) H) (qS (mA (pT qu1 (fun x L H=>x O (G L 2) (G L 3) H) (qS (mA (pT q08 (fun x L H=>x O (G L 2) (G L 3) H) (qS kB)) (mA (pB (p0 (D:=fun a L H=>qk2 O (fun H=>quz O (G L 2) (G L 3) H) (G L 3) a (G L 8) H) (fun a=>qS (mA (pT qu2 (fun x L H=>x O (qu7 O a L) (G L 3) (G L 8) H) (qS (mA (pT qu6 (fun x L H=>x O (qu7 O a L) (G L 8) H) (qS kB)) (pB (mA (pT quu (fun x L H=>x O (qu7 O a L) (G L 8) (G L 9) H) (qS (mA (pB (p0 (D:=fun c L H=>qqr O (fun H=>qqt O (qu7 O a L) (G L 8) H) (G L 9) c (G L 10) H) (fun c=>qS (mA (pT qu3 (fun x L H=>x O (qu9 O a c L) (G L 9) (G L 10) H) (qS (mA (pT qk5 (fun x L H=>x O (qu9 O a c L) (G L 10) H) (qS kB)) (pB (mA (pT quw (fun x L H=>x O (qu9 O a c L) (G L 9) (G L 10) (G L 11) H) (qS (mA (pT qu5 (fun x L H=>x O (qu9 O a c L) (G L 9) (G L 10) (G L 11) H) (qS kB)) (mA (pB (p0 (D:=fun d L H=>qqq O (znw O a c L) (G L 9) (G L 10) d (G L 11) (G L 12) H) (fun d=>qS (mA (pT qu4 (fun x L H=>x O (znv O a c d L) (G L 9) (G L 10) (G L 11) (G L 12) H) (qS (mA (pT qk4 (fun x L H=>x O (znv O a c d L) (G L 11) (G L 12) H) (qS kB)) kB))) (mA (pT qux (fun x L H=>x O (znv O a c d L) (znw O a c L) (G L 9) (G L 10) (G L 11) (G L 12) (G L 90) H) (qS kB)) kB))))) kB)))) kB))))) (mA (pT quv (fun x L H=>x O (qu9 O a c L) (fun H=>qqt O (qu7 O a L) (G L 8) H) (G L 9) (G L 10) (G L 78) H) (qS kB)) kB))))) kB))) kB))))) (mA (pT qut (fun x L H=>x O (qu7 O a L) (fun H=>quz O (G L 2) (G L 3) H) (G L 3) (G L 8) (G L 66) H) (qS kB)) kB))))) kB)))) (mA (pB (p0 (D:=fun b L H=>qk1 O (fun H=>qqs O (G L 2) (G L 3) H) (G L 1) (G L 3) b (G L 4) H) (fun b=>qS (mA (pT qho (fun x L H=>x O (qu8 O b L) (G L 1) (G L 3) (G L 4) H) (qS (mA (pT qu0 (fun x L H=>x O (qu8 O b L) (G L 4) H) (qS kB)) (pB (mA (pT quy (fun x L H=>x O (qu8 O b L) (G L 1) (G L 3) (G L 4) H) (qS (mA (pT qur (fun x L H=>x O (qu8 O b L) (G L 1) (G L 3) (G L 4) (G L 5) H) (qS (mA (pT qus (fun x L H=>x O (qu8 O b L) (G L 1) (G L 4) (G L 5) (G L 7) H) (qS kB)) kB))) kB))) kB))))) (mA (pT qqp (fun x L H=>x O (qu8 O b L) (fun H=>qqs O (G L 2) (G L 3) H) (G L 1) (G L 3) (G L 4) (G L 19) H) (qS kB)) kB))))) kB)))) kB) kB))
def zgv(O:Ev.Call):=fun H=>q9e O H
def z0e(O:Ev.Call)(k2:Nat)(L:TT AV (eF (Tryz.f92.ntmps+1))):=fun iD H=>qz3 O (fun x6 H=>.ok x6 H) (zgv O) (G L 1) (G L 2) (G L 15) (G L 16) k2 iD H
theorem zs8:(aO Tryz.prog 92).f O [x0,x1,x2] H=zHy O x0 x1 x2 H:=
 pA Tryz.func92 (D:=fun L H=>z3y O (G L 0) (G L 1) (G L 2) H)
 (qS (mA (mA (qS (E:=fun L H=>q4m O (G L 0) (G L 1) (G L 2) H) (mA (qS (E:=fun L H=>q9e O H) kB) (mA (pB (qS (E:=fun L H=>zgx O (fun x6 H=>.ok x6 H) (zgv O) (G L 1) (G L 2) (G L 15) (G L 16) (G L 17) H) (p0 (D:=fun k2 L H=>qz3 O (fun x6 H=>.ok x6 H) (zgv O) (G L 1) (G L 2) (G L 15) (G L 16) k2 (G L 17) H) (fun k2=>qS (mA (mA (qS (E:=fun L H=>q4n O (fun x6 H=>.ok x6 H) (z0e O k2 L) (G L 1) (G L 2) (G L 15) (G L 17) H) (mA (qS (E:=fun L H=>zgu O (z0e O k2 L) (G L 17) H) kB) kB)) kB) kB))) (fun _ _=>by kernel_rfl))) kB))) kB) kB))
def qz5(O:Ev.Call)(L:TT AV (eF (Tryz.f48.ntmps+1))):=fun x5 x6 H=>cO (eT (d9 (rV (dB 4 H (G L 4))) (d9 (some x5) (d9 (some x6) (some []))))) H
def q9g(O:Ev.Call)(k25:Nat)(L:TT AV (eF (Tryz.f48.ntmps+1))):=fun x5 x38 H=>qkh O (qz5 O L) (fun x5 H=>qki O (G L 4) x5 H) (G L 0) (G L 4) (G L 36) (G L 37) k25 x5 x38 H
theorem zti:(aO Tryz.prog 48).f O [x0,x1] H=zHo O x0 x1 H:=
 pA Tryz.func48 (D:=fun L H=>z4g O (G L 0) (G L 1) H)
 (qS (mA (mA (qS (E:=fun L H=>q4s O (G L 0) (G L 1) (G L 4) H) (mA (mA (mA (mA (qS (E:=fun L H=>qki O (G L 4) (G L 5) H) kB) (mA (pB (qS (E:=fun L H=>q4x O (qz5 O L) (fun x5 H=>qki O (G L 4) x5 H) (G L 0) (G L 4) (G L 36) (G L 37) (G L 5) (G L 38) H) (p0 (D:=fun a L H=>qkh O (qz5 O L) (fun x5 H=>qki O (G L 4) x5 H) (G L 0) (G L 4) (G L 36) (G L 37) a (G L 5) (G L 38) H) (fun a=>qS (mA (mA (qS (E:=fun L H=>q4t O (qz5 O L) (q9g O a L) (G L 0) (G L 4) (G L 5) (G L 36) (G L 38) H) (mA (qS (E:=fun L H=>q4w O (q9g O a L) (G L 5) (G L 38) H) kB) (pB (mA (mA (qS (E:=fun L H=>q4u O (qz5 O L) (q9g O a L) (G L 0) (G L 4) (G L 9) (G L 38) H) (mA (mA (mA (qS (E:=fun L H=>q4v O (q9g O a L) (G L 4) (G L 5) (G L 10) (G L 38) H) kB) kB) kB) kB)) kB) kB)))) kB) kB))) (fun _ _=>by kernel_rfl))) kB)) kB) kB) kB)) kB) kB))
theorem zwt:(aO Tryz.prog 8).f O [x0] H=zAg O x0 H:=
 pA Tryz.func8 (D:=fun L H=>z7q O (G L 0) H)
 (qS (mA (mA (mA (kB) (mA (pB (p0 (D:=fun a L H=>qqj O (fun x2 x3 H=>.ok (.bB [x2,x3]) H) (fun H=>q06 O (G L 4) H) (G L 1) (G L 4) a (G L 5) H) (fun a=>qS (mA (pB (mA (mA (pB (p0 (D:=fun b L H=>q05 O (fun x2 x3 H=>.ok (.bB [x2,x3]) H) (fun x5 H=>qqj O (fun x2 x3 H=>.ok (.bB [x2,x3]) H) (fun H=>q06 O (G L 4) H) (G L 1) (G L 4) a x5 H) (G L 1) (G L 4) b (G L 5) (G L 6) H) (fun b=>qS (mA (mA (kB) (pB (mA (pB (p0 (D:=fun c L H=>quq O (fun x2 x3 H=>.ok (.bB [x2,x3]) H) (fun x5 H=>zm3 O (fun x5 x6 H=>q05 O (fun x2 x3 H=>.ok (.bB [x2,x3]) H) (fun x5 H=>qqj O (fun x2 x3 H=>.ok (.bB [x2,x3]) H) (fun H=>q06 O (G L 4) H) (G L 1) (G L 4) a x5 H) (G L 1) (G L 4) b x5 x6 H) x5 (G L 6) H) (G L 1) (G L 4) (G L 6) c (G L 5) (G L 7) H) (fun c=>qS (mA (mA (kB) (pB (mA (mA (mA (mA (kB) kB) kB) kB) kB))) kB)))) kB))) kB)))) kB) kB)) kB)))) kB)) kB) kB))
def zgr(O:Ev.Call):=fun H=>q9d O H
def z0d(O:Ev.Call)(k2:Nat)(L:TT AV (eF (Tryz.f114.ntmps+1))):=fun x8 H=>qz2 O (fun x4 H=>.ok x4 H) (zgr O) (G L 0) (G L 1) (G L 7) k2 x8 H
theorem zs5:(aO Tryz.prog 114).f O [x0,x1] H=zIb O x0 x1 H:=
 pA Tryz.func114 (D:=fun L H=>z3v O (G L 0) (G L 1) H)
 (qS (mA (mA (qS (E:=fun L H=>q9d O H) kB) (mA (pB (qS (E:=fun L H=>zgt O (fun x4 H=>.ok x4 H) (zgr O) (G L 0) (G L 1) (G L 7) (G L 8) H) (p0 (D:=fun k2 L H=>qz2 O (fun x4 H=>.ok x4 H) (zgr O) (G L 0) (G L 1) (G L 7) k2 (G L 8) H) (fun k2=>qS (mA (mA (qS (E:=fun L H=>zgp O (fun x4 H=>.ok x4 H) (z0d O k2 L) (G L 0) (G L 1) (G L 8) H) (mA (qS (E:=fun L H=>zgq O (z0d O k2 L) (G L 8) H) kB) kB)) kB) kB))) (fun _ _=>by kernel_rfl))) kB)) kB))
def q9l(O:Ev.Call):=fun H=>q9k O H
theorem ztr:(aO Tryz.prog 19).f O [x0,x1] H=zHf O x0 x1 H:=
 pA Tryz.func19 (D:=fun L H=>z4o O (G L 0) (G L 1) H)
 (qS (mA (mA (qS (E:=fun L H=>q45 O (G L 2) (G L 3) H) (mA (qS (E:=fun L H=>q9k O H) kB) (mA (pB (qS (E:=fun L H=>zhh O (fun x4 H=>.ok x4 H) (q9l O) (G L 2) (G L 3) (G L 5) H) (p0 (D:=fun a L H=>qop O (fun x4 H=>.ok x4 H) (q9l O) (G L 2) (G L 3) a (G L 5) H) (fun a=>qS (mA (qS (E:=fun L H=>q46 O (fun x4 H=>.ok x4 H) (fun x5 H=>qop O (fun x4 H=>.ok x4 H) (q9l O) (G L 2) (G L 3) a x5 H) (G L 2) (G L 3) (G L 5) H) (mA (qS (E:=fun L H=>zhg O (fun x5 H=>qop O (fun x4 H=>.ok x4 H) (q9l O) (G L 2) (G L 3) a x5 H) (G L 5) H) kB) kB)) kB))) (fun _ _=>by kernel_rfl))) kB))) kB) kB))
def q9m(O:Ev.Call)(L:TT AV (eF (Tryz.f20.ntmps+1))):=fun H=>qwl O (G L 2) (G L 3) H
theorem zts:(aO Tryz.prog 20).f O [x0] H=zHe O x0 H:=
 pA Tryz.func20 (D:=fun L H=>z4p O (G L 0) H)
 (qS (mA (mA (mA (qS (E:=fun L H=>qwl O (G L 2) (G L 3) H) kB) (mA (pB (qS (E:=fun L H=>q48 O (q9m O L) (G L 1) (G L 3) (G L 4) H) (p0 (D:=fun a L H=>qfk O (q9m O L) (G L 1) (G L 3) a (G L 4) H) (fun a=>qS (mA (qS (E:=fun L H=>q47 O (fun x4 H=>qfk O (q9m O L) (G L 1) (G L 3) a x4 H) (G L 1) (G L 3) (G L 4) H) (mA (qS (E:=fun L H=>qoq O (fun x4 H=>qfk O (q9m O L) (G L 1) (G L 3) a x4 H) (G L 4) H) kB) kB)) kB))) (fun _ _=>by kernel_rfl))) kB)) kB) kB))
theorem zvn:(aO Tryz.prog 109).f O [x0] H=zBu O x0 H:=
 pA Tryz.func109 (D:=fun L H=>z6i O (G L 0) H)
 (qS (mA (mA (mA kB (mA (pB (p0 (D:=fun b L H=>q0w O (fun x2 H=>.ok x2 H) (fun H=>zkt O H) (G L 13) (G L 14) b (G L 15) H) (fun b=>qS (mA (mA (mA kB (pB (mA (mA (mA (pB (p0 (D:=fun a L H=>qxo O (fun x2 H=>.ok x2 H) (fun H=>zkn O (fun c H=>q0w O (fun x2 H=>.ok x2 H) (fun H=>zkt O H) (G L 13) (G L 14) b c H) (G L 15) H) (G L 30) (G L 31) a (G L 32) H) (fun a=>qS kB))) kB) kB) kB))) kB) kB)))) kB)) kB) kB))
theorem zv9:(aO Tryz.prog 45).f O [x0,x1,x2,x3] H=zBb O x0 x1 x2 x3 H:=
 pA Tryz.func45 (D:=fun L H=>z6y O (G L 0) (G L 1) (G L 2) (G L 3) H)
 (qS (mA (mA (mA (mA kB (mA (pB (p0 (D:=fun b L H=>qqd O (fun a H=>zlr O a H) (G L 3) (G L 4) (G L 10) b (G L 9) (G L 12) H) (fun b=>qS (mA (pT qul (fun x L H=>x O (fun a c H=>qqd O (fun a H=>zlr O a H) (G L 3) (G L 4) (G L 10) b a c H) (G L 3) (G L 4) (G L 9) (G L 10) (G L 12) H) (qS kB)) kB)))) kB)) kB) kB) kB))
theorem zws:(aO Tryz.prog 7).f O [x0] H=zAh O x0 H:=
 pA Tryz.func7 (D:=fun L H=>z7p O (G L 0) H)
 (qS (mA (mA (mA kB (mA (pB (p0 (D:=fun k2 L H=>q04 O (fun x3 H=>zm0 O x3 H) (G L 1) k2 (G L 3) (G L 4) H) (fun k2=>qS (mA (mA kB (pB (mA (pB (p0 (D:=fun a L H=>zbq O (fun x3 H=>zmx O (fun x3 x4 H=>q04 O (fun x3 H=>zm0 O x3 H) (G L 1) k2 x3 x4 H) x3 (G L 4) H) (G L 1) (G L 4) a (G L 3) (G L 5) H) (fun a=>qS kB))) kB))) kB)))) kB)) kB) kB))
theorem zt8:(aO Tryz.prog 183).f O [x0,x1] H=zDm O x0 x1 H:=
 pA Tryz.func183 (D:=fun L H=>z5d O (G L 0) (G L 1) H)
 (qS (mA (mA kB (mA (pB (p0 (D:=fun a L H=>zat O (fun x4 H=>.ok x4 H) (fun H=>zi4 O H) (G L 0) (G L 3) (G L 7) a (G L 8) H) (fun a=>qS kB))) kB)) kB))
theorem zui:(aO Tryz.prog 172).f O [x0,x1] H=zDe O x0 x1 H:=
 pA Tryz.func172 (D:=fun L H=>zuj O (G L 0) (G L 1) H)
 (qS (mA (mA (mA (mA kB (mA (pB (p0 (D:=fun a L H=>qxb O (fun H=>q5u O (G L 0) (G L 4) (G L 5) H) (G L 0) (G L 35) (G L 36) a (G L 37) H) (fun a=>qS kB))) kB)) kB) kB) kB))
theorem ztx:(aO Tryz.prog 13).f O [x0,x1,x2] H=zGz O x0 x1 x2 H:=
 pA Tryz.func13 (D:=fun L H=>z4s O (G L 0) (G L 1) (G L 2) H)
 (qS (mA (mA (qS (E:=fun L H=>q5b O (G L 0) (G L 1) (G L 2) (G L 6) H) (mA (mA (qS (E:=fun L H=>q5c O (G L 0) (G L 6) (G L 8) H) kB) kB) kB)) kB) kB))
theorem zwp:(aO Tryz.prog 21).f O [x0,x1,x2] H=zAm O x0 x1 x2 H:=
 pA Tryz.func21 (D:=fun L H=>z7m O (G L 0) (G L 1) (G L 2) H)
 (qS (mA (mA (mA kB (mA (pB (p0 (D:=fun a L H=>q02 O (fun x6 H=>.ok x6 H) (fun H=>zmo O H) (G L 1) (G L 2) (G L 7) a (G L 8) H) (fun a=>qS kB))) kB)) kB) kB))
theorem zwl:(aO Tryz.prog 30).f O [x0,x1,x2,x3,x4] H=zAp O x0 x1 x2 x3 x4 H:=
 pA Tryz.func30 (D:=fun L H=>zwm O (G L 0) (G L 1) (G L 2) (G L 3) (G L 4) H)
 (qS (mA (mA (mA (mA (mA (mA (qS (E:=fun L H=>qhm O (G L 1) (G L 2) (G L 3) (G L 4) (G L 5) (G L 10) (G L 13) H) kB) kB) kB) kB) kB) kB) kB))
theorem zuw:(aO Tryz.prog 100).f O [x0] H=zCt O x0 H:=
 pA Tryz.func100 (D:=fun L H=>z5p O (G L 0) H)
 (qS (mA (mA (mA kB (mA (pB (p0 (D:=fun k2 L H=>za0 O (fun x2 H=>.ok x2 H) (fun H=>zju O (G L 3) H) (G L 3) (G L 6) (G L 7) k2 (G L 8) H) (fun k2=>qS kB))) kB)) kB) kB))
theorem zty:(aO Tryz.prog 12).f O [x0,x1] H=zGy O x0 x1 H:=
 pA Tryz.func12 (D:=fun L H=>z4t O (G L 0) (G L 1) H)
 (qS (mA (mA (qS (E:=fun L H=>zh0 O (G L 0) (G L 1) (G L 4) H) kB) kB) kB))
theorem zta:(aO Tryz.prog 89).f O [x0] H=zHw O x0 H:=
 pA Tryz.func89 (D:=fun L H=>xa8 O (G L 0) H)
 (qS (mA (mA (qS (E:=fun L H=>z0f O (G L 0) H) kB) kB) kB))
theorem zt6:(aO Tryz.prog 157).f O [x0,x1] H=zDo O x0 x1 H:=
 pA Tryz.func157 (D:=fun L H=>z5b O (G L 0) (G L 1) H)
 (qS kB)
theorem zu8:(aO Tryz.prog 135).f O [x0,x1,x2,x3] H=zCj O x0 x1 x2 x3 H:=
 pA Tryz.func135 (D:=fun L H=>z5x O (G L 0) (G L 1) (G L 2) (G L 3) H)
 (qS kB)
theorem ztc:(aO Tryz.prog 84).f O [x0] H=zHu O x0 H:=
 pA Tryz.func84 (D:=fun L H=>z4b O (G L 0) H)
 (qS kB)
theorem zu7:(aO Tryz.prog 136).f O [x0,x1] H=zCk O x0 x1 H:=
 pA Tryz.func136 (D:=fun L H=>z5w O (G L 0) (G L 1) H)
 (qS kB)
theorem ztv:(aO Tryz.prog 15).f O [x0,x1,x2] H=zHb O x0 x1 x2 H:=
 pA Tryz.func15 (D:=fun L H=>xbc O (G L 0) (G L 1) (G L 2) H)
 (qS kB)
theorem zuk:(aO Tryz.prog 171).f O [x0,x1] H=zDd O x0 x1 H:=
 pA Tryz.func171 (D:=fun L H=>z5j O (G L 0) (G L 1) H)
 (qS kB)
theorem zt7:(aO Tryz.prog 158).f O [x0,x1] H=zDn O x0 x1 H:=
 pA Tryz.func158 (D:=fun L H=>z5c O (G L 0) (G L 1) H)
 (qS kB)
theorem zuy:(aO Tryz.prog 144).f O [x0,x1] H=zCr O x0 x1 H:=
 pA Tryz.func144 (D:=fun L H=>z5r O (G L 0) (G L 1) H)
 (qS kB)
theorem zvg:(aO Tryz.prog 122).f O [x0,x1] H=zBz O x0 x1 H:=
 pA Tryz.func122 (D:=fun L H=>z6f O (G L 0) (G L 1) H)
 (qS kB)
theorem zth:(aO Tryz.prog 50).f O [x0,x1] H=zHp O x0 x1 H:=
 pA Tryz.func50 (D:=fun L H=>z4f O (G L 0) (G L 1) H)
 (qS kB)
theorem zwf:(aO Tryz.prog 74).f O [x0,x1] H=zAv O x0 x1 H:=
 pA Tryz.func74 (D:=fun L H=>z7d O (G L 0) (G L 1) H)
 (qS kB)
theorem zum:(aO Tryz.prog 112).f O [x0] H=zDb O x0 H:=
 pA Tryz.func112 (D:=fun L H=>zun O (G L 0) H)
 (qS kB)
theorem zur:(aO Tryz.prog 49).f O [x0] H=zCx O x0 H:=
 pA Tryz.func49 (D:=fun L H=>zus O (G L 0) H)
 (qS kB)
theorem zwk:(aO Tryz.prog 31).f O [x0] H=zAq O x0 H:=
 pA Tryz.func31 (D:=fun L H=>z7j O (G L 0) H)
 (qS kB)
def qii(O:Ev.Call)(k3:Nat)(L:TT AV (eF (Tryz.f14.ntmps+1))):=fun bE dO H=>qlt O (fun x6 H=>.ok x6 H) (fun H=>qto O H) (G L 3) (G L 4) (G L 7) (G L 10) k3 bE dO H
def q9w(O:Ev.Call)(zC:Nat)(L:TT AV (eF (Tryz.f14.ntmps+1))):=fun bM H=>qh5 O (fun x6 H=>.ok x6 H) (fun H=>qmn O (G L 3) (G L 4) (G L 7) (G L 10) H) (G L 3) (G L 8) zC bM H
def qdn(O:Ev.Call):=fun(x6:AV) (H:Hp)=>R1.ok x6 H
def zhx(O:Ev.Call)(L:TT AV (eF (Tryz.f14.ntmps+1))):=fun H=>qmn O (G L 3) (G L 4) (G L 7) (G L 10) H
theorem ztw:(aO Tryz.prog 14).f O [x0,x1,x2] H=zHa O x0 x1 x2 H:=
 pA Tryz.func14 (D:=fun L H=>z4r O (G L 0) (G L 1) (G L 2) H)
 (qS (mA (mA (pT qou (fun x L H=>x O (G L 2) (G L 3) (G L 4) (G L 7) H) (qS (mA (pT qov (fun x L H=>x O (G L 2) (G L 3) (G L 4) (G L 7) (G L 8) H) (qS (mA (pT qow (fun x L H=>x O (G L 2) (G L 3) (G L 4) (G L 7) (G L 8) (G L 10) H) (qS (mA (pT qoy (fun x L H=>x O (G L 3) (G L 4) (G L 7) (G L 8) (G L 10) H) (qS (mA (pT qo2 (fun x L H=>x O (G L 3) (G L 4) (G L 7) (G L 10) H) (qS (mA (mA (pT q0g (fun x L H=>x O H) (qS kB)) (mA (pB (qS (E:=fun L H=>zhz O (qdn O) (fun H=>qto O H) (G L 3) (G L 4) (G L 7) (G L 10) (G L 12) (G L 13) H) (p0 (D:=fun a L H=>qlt O (qdn O) (fun H=>qto O H) (G L 3) (G L 4) (G L 7) (G L 10) a (G L 12) (G L 13) H) (fun a=>qS (mA (pT qtj (fun x L H=>x O (qdn O) (qii O a L) (G L 3) (G L 4) (G L 7) (G L 10) (G L 12) (G L 13) H) (qS (mA (pT q0f (fun x L H=>x O (qii O a L) (G L 12) (G L 13) H) (qS kB)) (pB (mA (pT qtk (fun x L H=>x O (qdn O) (qii O a L) (G L 4) (G L 7) (G L 10) (G L 12) (G L 13) (G L 14) H) (qS (mA (mA (mA (pT qtm (fun x L H=>x O (qdn O) (qii O a L) (G L 4) (G L 7) (G L 10) (G L 12) (G L 13) (G L 14) (G L 15) (G L 16) H) (qS (mA (pT qtn (fun x L H=>x O (qdn O) (qii O a L) (G L 10) (G L 12) (G L 13) (G L 14) (G L 15) (G L 16) H) (qS (mA (pT q0e (fun x L H=>x O (qdn O) (qii O a L) (G L 12) (G L 13) (G L 207) H) (qS kB)) kB))) (mA (pT qkm (fun x L H=>x O (qdn O) (qii O a L) (G L 4) (G L 7) (G L 10) (G L 12) (G L 13) (G L 14) (G L 15) (G L 16) (G L 141) H) (qS kB)) kB)))) (mA (pT qtl (fun x L H=>x O (qdn O) (qii O a L) (G L 4) (G L 7) (G L 10) (G L 12) (G L 13) (G L 14) (G L 15) (G L 16) (G L 132) H) (qS kB)) kB)) kB) kB))) kB))))) (mA (pT qkl (fun x L H=>x O (qdn O) (qii O a L) (fun H=>qto O H) (G L 3) (G L 4) (G L 7) (G L 10) (G L 12) (G L 13) (G L 119) H) (qS kB)) kB)))) (fun _ _=>by kernel_rfl))) kB)) kB))) (mA (pB (qS (E:=fun L H=>qwv O (qdn O) (zhx O L) (G L 3) (G L 8) (G L 11) H) (p0 (D:=fun b L H=>qh5 O (qdn O) (zhx O L) (G L 3) (G L 8) b (G L 11) H) (fun b=>qS (mA (pT qoz (fun x L H=>x O (qdn O) (q9w O b L) (G L 3) (G L 8) (G L 11) H) (qS (mA (pT qo1 (fun x L H=>x O (q9w O b L) (G L 11) H) (qS kB)) (pB (mA (pT qo0 (fun x L H=>x O (qdn O) (q9w O b L) (G L 11) (G L 115) H) (qS kB)) kB))))) (mA (pT qhb (fun x L H=>x O (qdn O) (q9w O b L) (zhx O L) (G L 3) (G L 8) (G L 11) (G L 102) H) (qS kB)) kB)))) (fun _ _=>by kernel_rfl))) kB)))) (mA (pT qox (fun x L H=>x O (G L 3) (G L 4) (G L 7) (G L 8) (G L 10) (G L 97) H) (qS kB)) kB)))) kB))) kB))) kB) kB))
def q0d(O:Ev.Call)(k2:Nat)(L:TT AV (eF (Tryz.f16.ntmps+1))):=fun x8 oZ H=>qz8 O (fun x2 H=>.ok x2 H) (fun H=>q0c O H) (G L 40) (G L 41) k2 x8 oZ H
def qti(O:Ev.Call):=fun(x2:AV) (H:Hp)=>R1.ok x2 H
theorem ztu:(aO Tryz.prog 16).f O [x0] H=zHc O x0 H:=
 pA Tryz.func16 (D:=fun L H=>xbb O (G L 0) H)
 (qS (mA (mA (pT qs9 (fun x L H=>x O (G L 0) (G L 3) (G L 4) (G L 5) H) (qS (mA (pT qtb (fun x L H=>x O (G L 0) (G L 3) H) (qS (mA (pT qte (fun x L H=>x O (G L 0) H) (qS (mA (mA (pT q0b (fun x L H=>x O H) (qS kB)) (mA (pB (qS (E:=fun L H=>zhr O (qti O) (fun H=>q0c O H) (G L 40) (G L 41) (G L 8) (G L 42) H) (p0 (D:=fun k2 L H=>qz8 O (qti O) (fun H=>q0c O H) (G L 40) (G L 41) k2 (G L 8) (G L 42) H) (fun k2=>qS (mA (mA (pT qtf (fun x L H=>x O (qti O) (q0d O k2 L) (G L 8) (G L 40) (G L 42) H) (qS (mA (pT q0a (fun x L H=>x O (q0d O k2 L) (G L 8) (G L 42) H) (qS kB)) (pB (mA (pT qtg (fun x L H=>x O (qti O) (q0d O k2 L) (G L 8) (G L 10) (G L 42) H) (qS (mA (mA (pT qth (fun x L H=>x O (qti O) (q0d O k2 L) (G L 8) (G L 10) (G L 11) (G L 42) H) (qS (mA (pT qz9 (fun x L H=>x O (qti O) (q0d O k2 L) (G L 8) (G L 42) (G L 76) H) (qS kB)) kB))) kB) kB))) kB))))) kB) kB))) (fun _ _=>by kernel_rfl))) kB)) kB))) (mA (pT qtc (fun x L H=>x O (G L 0) (G L 3) (G L 6) H) (qS (mA (pT qtd (fun x L H=>x O (G L 0) (G L 39) H) (qS kB)) kB))) kB)))) (mA (pT qta (fun x L H=>x O (G L 0) (G L 3) (G L 30) H) (qS kB)) kB)))) kB) kB))
def q0t(O:Ev.Call)(k1:Nat)(L:TT AV (eF (Tryz.f137.ntmps+1))):=fun bE H=>qug O (fun x4 H=>.ok x4 H) (fun H=>zav O H) (G L 0) (G L 1) (G L 10) (G L 11) k1 bE H
theorem zuq:(aO Tryz.prog 137).f O [x0,x1] H=zCy O x0 x1 H:=
 pA Tryz.func137 (D:=fun L H=>z5n O (G L 0) (G L 1) H)
 (qS (mA (mA (pT q0s (fun x L H=>x O H) (qS kB)) (mA (pT qud (fun x L H=>x O (G L 0) (G L 1) (G L 10) (G L 11) (G L 12) H) (qS (pB (p0 (D:=fun a L H=>qug O (fun x4 H=>.ok x4 H) (fun H=>zav O H) (G L 0) (G L 1) (G L 10) (G L 11) a (G L 12) H) (fun a=>qS (mA (mA (pT quh (fun x L H=>x O (fun x4 H=>.ok x4 H) (q0t O a L) (G L 0) (G L 1) (G L 10) (G L 12) H) (qS (mA (pT q0r (fun x L H=>x O (q0t O a L) (G L 12) H) (qS kB)) (pB (mA (pT que (fun x L H=>x O (fun x4 H=>.ok x4 H) (q0t O a L) (G L 0) (G L 1) (G L 5) (G L 6) (G L 12) H) (qS (pB (mA (pT quf (fun x L H=>x O (fun x4 H=>.ok x4 H) (q0t O a L) (G L 1) (G L 5) (G L 6) (G L 12) (G L 17) H) (qS (pD kB (mA (pT q0q (fun x L H=>x O (fun x4 H=>.ok x4 H) (q0t O a L) (G L 12) (G L 40) H) (qS kB)) kB)))) kB)))) kB))))) kB) kB)))))) kB)) kB))
theorem zut:(aO Tryz.prog 150).f O [x0,x1,x2,x3] H=zCw O x0 x1 x2 x3 H:=
 pA Tryz.func150 (D:=fun L H=>z5o O (G L 0) (G L 1) (G L 2) (G L 3) H)
 (qS (mA (mA (pB (p0 (D:=fun c L H=>qui O (fun H=>.ok (.bB []) H) (fun H=>.ok (.bB []) H) (G L 0) (G L 1) (G L 2) (G L 3) (G L 5) (G L 16) c (G L 17) H) (fun c=>qS (mA (mA (mA (kB) (pB (mA (mA (mA (pB (p0 (D:=fun a L H=>qp2 O (fun H=>.ok (.bB []) H) (fun H=>zaw O (fun d H=>qui O (fun H=>.ok (.bB []) H) (fun H=>.ok (.bB []) H) (G L 0) (G L 1) (G L 2) (G L 3) (G L 5) (G L 16) c d H) (G L 17) H) (G L 0) (G L 1) (G L 5) (G L 6) (G L 54) a (G L 55) H) (fun a=>qS (mA (mA (mA (kB) (pB (mA (mA (pD (mA (mA kB kB) kB) kB) kB) kB))) kB) kB)))) kB) (mA (pB (p0 (D:=fun b L H=>qp1 O (fun H=>q5y O (fun H=>.ok (.bB []) H) (fun d H=>qui O (fun H=>.ok (.bB []) H) (fun H=>.ok (.bB []) H) (G L 0) (G L 1) (G L 2) (G L 3) (G L 5) (G L 16) c d H) (G L 0) (G L 1) (G L 5) (G L 6) (G L 17) H) (G L 3) (G L 5) (G L 6) (G L 23) (G L 24) b (G L 25) H) (fun b=>qS (mA (mA (mA (kB) kB) kB) kB)))) kB)) kB))) kB) kB)))) kB) kB))
def zhc(O:Ev.Call)(k9:Nat)(L:TT AV (eF (Tryz.f39.ntmps+1))):=fun x8 wR H=>qz6 O (fun H=>qs8 O (G L 7) H) (G L 1) (G L 7) (G L 19) (G L 20) k9 x8 wR H
theorem ztn:(aO Tryz.prog 39).f O [x0,x1] H=zHj O x0 x1 H:=
 pA Tryz.func39 (D:=fun L H=>z4l O (G L 0) (G L 1) H)
 (qS (mA (mA (mA (mA (mA (qS (E:=fun L H=>qs8 O (G L 7) H) kB) (mA (pB (qS (E:=fun L H=>zhe O (fun H=>qs8 O (G L 7) H) (G L 1) (G L 7) (G L 19) (G L 20) (G L 8) (G L 21) H) (p0 (D:=fun a L H=>qz6 O (fun H=>qs8 O (G L 7) H) (G L 1) (G L 7) (G L 19) (G L 20) a (G L 8) (G L 21) H) (fun a=>qS (mA (mA (qS (E:=fun L H=>qwk O (zhc O a L) (G L 1) (G L 7) (G L 8) (G L 19) (G L 21) H) (mA (qS (E:=fun L H=>qoo O (zhc O a L) (G L 8) (G L 21) H) kB) (pB (mA (mA (mA (qS (E:=fun L H=>qkk O (zhc O a L) (G L 1) (G L 7) (G L 8) (G L 9) (G L 10) (G L 21) H) kB) kB) kB) kB)))) kB) kB))) (fun _ _=>by kernel_rfl))) kB)) kB) kB) kB) kB))
def q9i(O:Ev.Call):=fun H=>zg9 O H
theorem ztk:(aO Tryz.prog 23).f O [x0,x1] H=zHm O x0 x1 H:=
 pA Tryz.func23 (D:=fun L H=>z4i O (G L 0) (G L 1) H)
 (qS (mA (mA (qS (E:=fun L H=>q40 O (G L 0) (G L 1) H) (mA (qS (E:=fun L H=>zg9 O H) kB) (mA (pB (qS (E:=fun L H=>zhb O (fun x4 H=>.ok x4 H) (q9i O) (G L 0) (G L 1) (G L 5) H) (p0 (D:=fun a L H=>qs7 O (fun x4 H=>.ok x4 H) (q9i O) (G L 0) (G L 1) a (G L 5) H) (fun a=>qS (mA (qS (E:=fun L H=>zg7 O (fun x4 H=>.ok x4 H) (fun x5 H=>qs7 O (fun x4 H=>.ok x4 H) (q9i O) (G L 0) (G L 1) a x5 H) (G L 0) (G L 1) (G L 5) H) (mA (qS (E:=fun L H=>zg8 O (fun x5 H=>qs7 O (fun x4 H=>.ok x4 H) (q9i O) (G L 0) (G L 1) a x5 H) (G L 5) H) kB) kB)) kB))) (fun _ _=>by kernel_rfl))) kB))) kB) kB))
theorem zvf:(aO Tryz.prog 125).f O [x0] H=zCb O x0 H:=
 pA Tryz.func125 (D:=fun L H=>z6e O (G L 0) H)
 (qS (mA (mA (mA kB (mA (pB (p0 (D:=fun b L H=>za6 O (fun x2 H=>.ok x2 H) (fun H=>z1n O (G L 0) H) (G L 0) b (G L 3) H) (fun b=>qS (mA (mA kB (pB (mA (pD (mA (mA kB (mA (pB (p0 (D:=fun a L H=>qp6 O (fun x3 H=>qxn O (fun x2 H=>.ok x2 H) (G L 0) x3 H) (G L 0) (G L 4) a (G L 3) (G L 5) H) (fun a=>qS kB))) kB)) kB) kB) kB))) kB)))) kB)) kB) kB))
theorem zuv:(aO Tryz.prog 151).f O [x0,x1] H=zCu O x0 x1 H:=
 pA Tryz.func151 (D:=fun L H=>xbg O (G L 0) (G L 1) H)
 (qS (kA (mA (mA (mA (pB (p0 (D:=fun b L H=>quj O (fun H=>.ok (.bB []) H) (G L 0) b (G L 4) H) (fun b=>qS (mA (pB (mA (mA kB (pB (p0 (D:=fun a L H=>qxf O (fun x4 H=>quj O (fun H=>.ok (.bB []) H) (G L 0) b x4 H) (fun x4 H=>qxg O (fun x4 H=>quj O (fun H=>.ok (.bB []) H) (G L 0) b x4 H) (G L 0) x4 (G L 5) H) (G L 0) (G L 5) a (G L 4) H) (fun a=>qS (mA (pB (mA (mA (mA kB kB) kB) kB)) kB))))) kB)) kB)))) kB) kB) kB)))
theorem zwj:(aO Tryz.prog 32).f O [x0,x1] H=zAr O x0 x1 H:=
 pA Tryz.func32 (D:=fun L H=>z7i O (G L 0) (G L 1) H)
 (qS (mA (mA (mA (mA kB (mA (pD (mA (mA kB (mA (pB (p0 (D:=fun a L H=>qx9 O (fun x7 H=>q7c O (G L 1) (G L 2) (G L 5) x7 H) (G L 1) (G L 2) a (G L 7) (G L 8) H) (fun a=>qS kB))) kB)) kB) kB) kB)) (mA (pB (p0 (D:=fun b L H=>qx8 O (fun x5 H=>qyb O (G L 1) (G L 2) x5 H) (G L 1) (G L 2) b (G L 5) (G L 6) H) (fun b=>qS kB))) kB)) kB) kB))
theorem zvc:(aO Tryz.prog 128).f O [x0] H=zCe O x0 H:=
 pA Tryz.func128 (D:=fun L H=>z6b O (G L 0) H)
 (qS (mA (mA (mA (mA kB (mA (pB (p0 (D:=fun b L H=>za4 O (fun H=>zj6 O (G L 3) H) (G L 3) (G L 29) b (G L 30) H) (fun b=>qS kB))) kB)) (mA (pB (p0 (D:=fun a L H=>qxk O (fun H=>q59 O (G L 1) (G L 3) H) (G L 3) (G L 8) (G L 9) a (G L 10) H) (fun a=>qS kB))) kB)) kB) kB))
theorem zt2:(aO Tryz.prog 185).f O [x0,x1] H=zDs O x0 x1 H:=
 pA Tryz.func185 (D:=fun L H=>z4y O (G L 0) (G L 1) H)
 (qS (mA (mA kB (mA (pB (p0 (D:=fun k2 L H=>q0o O (fun x4 H=>.ok x4 H) (fun H=>zix O H) (G L 0) (G L 1) (G L 7) k2 (G L 8) H) (fun k2=>qS kB))) kB)) kB))
theorem zv4:(aO Tryz.prog 68).f O [x0,x1,x2,x3] H=zBf O x0 x1 x2 x3 H:=
 pA Tryz.func68 (D:=fun L H=>z6v O (G L 0) (G L 1) (G L 2) (G L 3) H)
 (qS (mA (mA (mA kB (mA (pB (p0 (D:=fun a L H=>qxu O (fun b H=>zlo O (G L 2) (G L 8) b H) (G L 1) (G L 3) (G L 4) a (G L 9) (G L 10) H) (fun a=>qS kB))) kB)) kB) kB))
theorem zwv:(aO Tryz.prog 34).f O [x0] H=zAd O x0 H:=
 pA Tryz.func34 (D:=fun L H=>z7s O (G L 0) H)
 (qS (mA (mA (mA (mA (mA (mA (mA kB (mA (pB (p0 (D:=fun a L H=>qyh O (fun H=>q7j O (G L 2) (G L 7) H) (G L 1) (G L 6) (G L 7) (G L 33) a (G L 34) H) (fun a=>qS kB))) kB)) kB) kB) kB) kB) kB) kB))
theorem zt4:(aO Tryz.prog 214).f O [x0,x1] H=zDq O x0 x1 H:=
 pA Tryz.func214 (D:=fun L H=>z4z O (G L 0) (G L 1) H)
 (qS (mA (pB (p0 (D:=fun k2 L H=>zar O (fun H=>.ok (.bB []) H) (fun H=>.ok (.bB []) H) (G L 0) (G L 5) (G L 6) k2 (G L 7) H) (fun k2=>qS kB))) kB))
theorem zwq:(aO Tryz.prog 35).f O [x0] H=zAj O x0 H:=
 pA Tryz.func35 (D:=fun L H=>z7n O (G L 0) H)
 (qS (mA (mA (mA kB (mA (pB (p0 (D:=fun a L H=>zbp O (fun x3 H=>z2c O x3 H) (G L 7) (G L 8) a (G L 3) (G L 9) H) (fun a=>qS kB))) kB)) kB) kB))
theorem zv8:(aO Tryz.prog 76).f O [x0] H=zBc O x0 H:=
 pA Tryz.func76 (D:=fun L H=>z6x O (G L 0) H)
 (qS (mA (mA (mA kB (mA (pB (p0 (D:=fun k2 L H=>zba O (fun x3 H=>z1z O x3 H) (G L 6) (G L 7) k2 (G L 3) (G L 8) H) (fun k2=>qS kB))) kB)) kB) kB))
theorem ztb:(aO Tryz.prog 87).f O [x0] H=zHv O x0 H:=
 pA Tryz.func87 (D:=fun L H=>z4a O (G L 0) H)
 (qS (mA (mA (qS (E:=fun L H=>z0g O (G L 0) H) kB) kB) kB))
theorem ztz:(aO Tryz.prog 11).f O [x0] H=zGx O x0 H:=
 pA Tryz.func11 (D:=fun L H=>z4u O (G L 0) H)
 (qS (mA (mA (qS (E:=fun L H=>zh1 O (G L 0) H) kB) kB) kB))
theorem ztt:(aO Tryz.prog 17).f O [x0] H=zHd O x0 H:=
 pA Tryz.func17 (D:=fun L H=>z4q O (G L 0) H)
 (qS (mA (mA (qS (E:=fun L H=>z0k O (G L 0) (G L 2) H) kB) kB) kB))
theorem zu6:(aO Tryz.prog 138).f O [x0,x1,x2,x3] H=zCl O x0 x1 x2 x3 H:=
 pA Tryz.func138 (D:=fun L H=>z5v O (G L 0) (G L 1) (G L 2) (G L 3) H)
 (qS kB)
theorem zs6:(aO Tryz.prog 94).f O [x0,x1] H=zIa O x0 x1 H:=
 pA Tryz.func94 (D:=fun L H=>z3w O (G L 0) (G L 1) H)
 (qS kB)
theorem zs9:(aO Tryz.prog 90).f O [x0] H=zHx O x0 H:=
 pA Tryz.func90 (D:=fun L H=>z3z O (G L 0) H)
 (qS kB)
theorem zvw:(aO Tryz.prog 41).f O [x0,x1,x2,x3] H=zBm O x0 x1 x2 x3 H:=
 pA Tryz.func41 (D:=fun L H=>z6o O (G L 0) (G L 1) (G L 2) (G L 3) H)
 (qS kB)
theorem zwa:(aO Tryz.prog 44).f O [x0,x1,x2,x3] H=zBa O x0 x1 x2 x3 H:=
 pA Tryz.func44 (D:=fun L H=>z6z O (G L 0) (G L 1) (G L 2) (G L 3) H)
 (qS kB)
theorem zua:(aO Tryz.prog 201).f O [x0] H=zDk O x0 H:=
 pA Tryz.func201 (D:=fun L H=>z5e O (G L 0) H)
 (qS kB)
theorem zvo:(aO Tryz.prog 103).f O [x0,x1,x2] H=zBt O x0 x1 x2 H:=
 pA Tryz.func103 (D:=fun L H=>xbl O (G L 0) (G L 1) (G L 2) H)
 (qS kB)
theorem zt3:(aO Tryz.prog 213).f O [x0] H=zDr O x0 H:=
 pA Tryz.func213 (D:=fun L H=>xbd O (G L 0) H)
 (qS kB)
theorem zs7:(aO Tryz.prog 93).f O [x0,x1] H=zHz O x0 x1 H:=
 pA Tryz.func93 (D:=fun L H=>z3x O (G L 0) (G L 1) H)
 (qS kB)
theorem zvv:(aO Tryz.prog 105).f O [x0] H=zBn O x0 H:=
 pA Tryz.func105 (D:=fun L H=>xbn O (G L 0) H)
 (qS kB)
theorem zv2:(aO Tryz.prog 70).f O [x0] H=zBh O x0 H:=
 pA Tryz.func70 (D:=fun L H=>z6s O (G L 0) H)
 (qS kB)
theorem zv5:(aO Tryz.prog 67).f O [x0] H=zBe O x0 H:=
 pA Tryz.func67 (D:=fun L H=>z6w O (G L 0) H)
 (qS kB)
theorem zwd:(aO Tryz.prog 42).f O [x0] H=zAx O x0 H:=
 pA Tryz.func42 (D:=fun L H=>z7b O (G L 0) H)
 (qS kB)
def qo4(O:Ev.Call)(k2:Nat)(L:TT AV (eF (Tryz.f6.ntmps+1))):=fun x31 H=>q0i O (fun H=>q0n O (G L 6) H) (G L 1) (G L 4) (G L 6) (G L 29) (G L 30) k2 x31 H
def qt0(O:Ev.Call)(k2:Nat)(k6:Nat)(L:TT AV (eF (Tryz.f6.ntmps+1))):=fun x38 H=>q0h O (fun H=>q0l O (qo4 O k2 L) (G L 31) H) (G L 1) (G L 4) (G L 6) (G L 8) (G L 36) (G L 37) k6 x38 H
theorem zt1:(aO Tryz.prog 6).f O [x0] H=zGv O x0 H:=
 pA Tryz.func6 (D:=fun L H=>z4w O (G L 0) H)
 (qS (mA (mA (pT qo3 (fun x L H=>x O (G L 1) (G L 4) (G L 5) H) (qS (mA (pT qtp (fun x L H=>x O (G L 1) (G L 4) H) (qS (mA (pT qtq (fun x L H=>x O (G L 1) (G L 4) (G L 6) H) (qS (mA (pT q0m (fun x L H=>x O (G L 6) H) (qS kB)) (mA (pT qtr (fun x L H=>x O (G L 1) (G L 4) (G L 6) (G L 29) (G L 30) (G L 31) H) (qS (pB (qS (E:=fun L H=>zif O (fun H=>q0n O (G L 6) H) (G L 1) (G L 4) (G L 6) (G L 29) (G L 30) (G L 31) H) (p0 (D:=fun k2 L H=>q0i O (fun H=>q0n O (G L 6) H) (G L 1) (G L 4) (G L 6) (G L 29) (G L 30) k2 (G L 31) H) (fun k2=>qS (mA (mA (pT qts (fun x L H=>x O (qo4 O k2 L) (G L 1) (G L 4) (G L 6) (G L 29) (G L 31) H) (qS (mA (pT q0k (fun x L H=>x O (qo4 O k2 L) (G L 31) H) (qS kB)) (pB (mA (pT qtt (fun x L H=>x O (qo4 O k2 L) (G L 1) (G L 4) (G L 6) (G L 8) (G L 31) H) (qS (mA (pT qtu (fun x L H=>x O (qo4 O k2 L) (G L 1) (G L 4) (G L 6) (G L 8) (G L 31) (G L 36) (G L 37) (G L 38) H) (qS (pB (qS (E:=fun L H=>zie O (fun H=>q0l O (qo4 O k2 L) (G L 31) H) (G L 1) (G L 4) (G L 6) (G L 8) (G L 36) (G L 37) (G L 38) H) (p0 (D:=fun a L H=>q0h O (fun H=>q0l O (qo4 O k2 L) (G L 31) H) (G L 1) (G L 4) (G L 6) (G L 8) (G L 36) (G L 37) a (G L 38) H) (fun a=>qS (mA (mA (pT qtv (fun x L H=>x O (qt0 O k2 a L) (G L 1) (G L 4) (G L 6) (G L 8) (G L 36) (G L 38) H) (qS (mA (pT q0j (fun x L H=>x O (qt0 O k2 a L) (G L 38) H) (qS kB)) (pB (mA (pT qtw (fun x L H=>x O (qt0 O k2 a L) (G L 1) (G L 4) (G L 6) (G L 8) (G L 10) (G L 38) H) (qS (mA (pT qtx (fun x L H=>x O (qt0 O k2 a L) (G L 1) (G L 4) (G L 6) (G L 8) (G L 10) (G L 11) (G L 38) H) (qS (mA (pT qty (fun x L H=>x O (qt0 O k2 a L) (G L 1) (G L 6) (G L 8) (G L 10) (G L 11) (G L 13) (G L 38) H) (qS (mA (pT qtz (fun x L H=>x O (qt0 O k2 a L) (G L 1) (G L 6) (G L 8) (G L 10) (G L 11) (G L 13) (G L 38) H) (qS kB)) kB))) kB))) kB))) kB))))) kB) kB))) (fun _ _=>by kernel_rfl))))) kB))) kB))))) kB) kB))) (fun _ _=>by kernel_rfl))))) kB)))) kB))) kB))) kB) kB))
def z15(O:Ev.Call)(k21:Nat)(k32:Nat)(L:TT AV (eF (Tryz.f72.ntmps+1))):=fun H=>q66 O (fun x70 H=>qqh O (fun H=>qx4 O (fun x63 H=>qkz O (fun H=>qqi O (G L 2) (G L 10) H) (G L 1) (G L 5) (G L 10) (G L 61) (G L 62) k21 x63 H) (G L 63) H) (G L 1) (G L 5) (G L 10) (G L 12) (G L 68) (G L 69) k32 x70 H) (G L 70) H
def z14(O:Ev.Call)(k21:Nat)(k32:Nat)(k46:Nat)(L:TT AV (eF (Tryz.f72.ntmps+1))):=fun H=>qhl O (fun x82 H=>qky O (z15 O k21 k32 L) (G L 1) (G L 5) (G L 10) (G L 12) (G L 14) (G L 80) (G L 81) k46 x82 H) (G L 82) H
theorem zwh:(aO Tryz.prog 72).f O [x0] H=zAt O x0 H:=
 pA Tryz.func72 (D:=fun L H=>z7f O (G L 0) H)
 (qS (mA (mA (mA (mA (mA (mA kB (mA (pB (p0 (D:=fun a L H=>qkz O (fun H=>qqi O (G L 2) (G L 10) H) (G L 1) (G L 5) (G L 10) (G L 61) (G L 62) a (G L 63) H) (fun a=>qS (mA (mA (mA kB (pB (mA (mA (pB (p0 (D:=fun b L H=>qqh O (fun H=>qx4 O (fun g H=>qkz O (fun H=>qqi O (G L 2) (G L 10) H) (G L 1) (G L 5) (G L 10) (G L 61) (G L 62) a g H) (G L 63) H) (G L 1) (G L 5) (G L 10) (G L 12) (G L 68) (G L 69) b (G L 70) H) (fun b=>qS (mA (mA (mA kB (pB (mA (mA (mA (pB (p0 (D:=fun c L H=>qky O (z15 O a b L) (G L 1) (G L 5) (G L 10) (G L 12) (G L 14) (G L 80) (G L 81) c (G L 82) H) (fun c=>qS (mA (mA (mA kB (pB (mA (mA (mA (pB (mA (pD (mA (pB (p0 (D:=fun e L H=>qx2 O (z14 O a b c L) (G L 19) (G L 92) (G L 93) e (G L 94) H) (fun e=>qS kB))) kB) (mA (pD kB (mA (pD (mA (mA (pB (p0 (D:=fun f L H=>qx1 O (z14 O a b c L) (G L 18) (G L 19) (G L 129) (G L 130) f (G L 131) H) (fun f=>qS kB))) kB) kB) kB) kB)) kB)) kB)) kB) kB) kB))) kB) kB)))) kB) kB) kB))) kB) kB)))) kB) kB))) kB) kB)))) kB)) kB) (mA (pB (p0 (D:=fun d L H=>qjg O (fun H=>qno O (G L 1) (G L 2) (G L 5) H) (G L 5) (G L 34) (G L 35) d (G L 36) H) (fun d=>qS (mA (mA (mA kB (pB (mA (mA (pB (p0 (D:=fun h L H=>qnn O (fun H=>qx5 O (fun i H=>qjg O (fun H=>qno O (G L 1) (G L 2) (G L 5) H) (G L 5) (G L 34) (G L 35) d i H) (G L 36) H) (G L 5) (G L 7) (G L 41) (G L 42) h (G L 43) H) (fun h=>qS kB))) kB) kB))) kB) kB)))) kB)) kB) kB) kB))
def zl5(O:Ev.Call)(k11:Nat)(L:TT AV (eF (Tryz.f73.ntmps+1))):=fun qE H=>qkw O (fun H=>zbc O (G L 8) H) (G L 1) (G L 4) (G L 8) (G L 39) (G L 40) k11 qE H
theorem zwg:(aO Tryz.prog 73).f O [x0] H=zAu O x0 H:=
 pA Tryz.func73 (D:=fun L H=>z7e O (G L 0) H)
 (qS (mA (mA (mA (pT qum (fun x L H=>x O (G L 1) (G L 4) H) (qS (mA (pT qun (fun x L H=>x O (G L 1) (G L 4) H) (qS (mA (mA (pT qkx (fun x L H=>x O (G L 1) (G L 4) (G L 8) H) (qS (mA kB (mA (pB (p0 (D:=fun a L H=>qkw O (fun H=>zbc O (G L 8) H) (G L 1) (G L 4) (G L 8) (G L 39) (G L 40) a (G L 41) H) (fun a=>qS (mA (mA (mA kB (pB (mA (mA (mA (mA (pB (p0 (D:=fun c L H=>qxz O (fun H=>q62 O (zl5 O a L) (G L 41) H) (G L 8) (G L 11) (G L 83) (G L 84) c (G L 85) H) (fun c=>qS kB))) kB) (mA (pB (p0 (D:=fun b L H=>qkv O (fun d H=>qx0 O (zl5 O a L) (G L 8) (G L 10) d (G L 41) H) (G L 4) (G L 8) (G L 9) (G L 47) (G L 48) b (G L 11) (G L 49) H) (fun b=>qS (mA (mA (pT qup (fun x L H=>x O (fun d e H=>qkv O (fun d H=>qx0 O (zl5 O a L) (G L 8) (G L 10) d (G L 41) H) (G L 4) (G L 8) (G L 9) (G L 47) (G L 48) b d e H) (G L 4) (G L 8) (G L 9) (G L 11) (G L 47) (G L 49) H) (qS kB)) kB) kB)))) kB)) kB) kB))) kB) kB)))) kB)))) kB) kB))) kB))) kB) kB) kB))
def z2m(O:Ev.Call)(k11:Nat)(L:TT AV (eF (Tryz.f9.ntmps+1))):=fun H=>q7f O (fun x5 H=>qqn O (fun H=>qyf O (G L 2) (G L 4) H) (G L 1) (G L 3) (G L 4) k11 x5 H) (G L 5) H
def z2l(O:Ev.Call)(k11:Nat)(k36:Nat)(L:TT AV (eF (Tryz.f9.ntmps+1))):=fun H=>qhn O (fun x9 H=>qk0 O (z2m O k11 L) (G L 1) (G L 3) (G L 4) (G L 5) (G L 6) (G L 8) k36 x9 H) (G L 9) H
theorem zwu:(aO Tryz.prog 9).f O [x0] H=zAf O x0 H:=
 pA Tryz.func9 (D:=fun L H=>z7r O (G L 0) H)
 (qS (mA (mA (mA (mA kB (mA (pB (p0 (D:=fun a L H=>qqn O (fun H=>qyf O (G L 2) (G L 4) H) (G L 1) (G L 3) (G L 4) a (G L 5) H) (fun a=>qS (mA (mA kB (pB (mA (mA (mA (pB (p0 (D:=fun b L H=>qk0 O (z2m O a L) (G L 1) (G L 3) (G L 4) (G L 5) (G L 6) (G L 8) b (G L 9) H) (fun b=>qS (mA (mA kB (pB (mA (pB (mA (pD (mA (pB (p0 (D:=fun c L H=>qyd O (z2l O a b L) (G L 1) (G L 4) (G L 5) (G L 6) (G L 8) (G L 9) c (G L 10) H) (fun c=>qS kB))) kB) (mA (pD kB (mA (pD (mA (mA (pB (p0 (D:=fun d L H=>qnp O (z2l O a b L) (G L 1) (G L 4) (G L 5) (G L 8) (G L 9) (G L 11) d (G L 12) H) (fun d=>qS kB))) kB) kB) kB) kB)) kB)) kB)) kB))) kB)))) kB) kB) kB))) kB)))) kB)) kB) kB) kB))
def z1v(O:Ev.Call)(k16:Nat)(L:TT AV (eF (Tryz.f69.ntmps+1))):=fun x9 H=>q6v O (fun x9 x10 H=>qqc O (fun x9 H=>qxt O (G L 2) (G L 3) (G L 8) x9 H) (G L 1) (G L 3) (G L 4) k16 x9 x10 H) x9 (G L 10) H
theorem zv3:(aO Tryz.prog 69).f O [x0,x1,x2,x3] H=zBg O x0 x1 x2 x3 H:=
 pA Tryz.func69 (D:=fun L H=>z6t O (G L 0) (G L 1) (G L 2) (G L 3) H)
 (qS (mA (mA (mA kB (mA (pB (p0 (D:=fun a L H=>qqc O (fun c H=>qxt O (G L 2) (G L 3) (G L 8) c H) (G L 1) (G L 3) (G L 4) a (G L 9) (G L 10) H) (fun a=>qS (mA (mA kB (pB (mA (mA (pB (p0 (D:=fun b L H=>qqb O (z1v O a L) (G L 1) (G L 3) (G L 4) (G L 10) (G L 11) b (G L 9) (G L 12) H) (fun b=>qS (mA (mA kB (pB (mA (pB (p0 (D:=fun d L H=>qxs O (fun c H=>q6u O (fun c e H=>qqb O (z1v O a L) (G L 1) (G L 3) (G L 4) (G L 10) (G L 11) b c e H) c (G L 12) H) (G L 1) (G L 3) (G L 4) (G L 10) (G L 11) (G L 12) d (G L 9) (G L 13) H) (fun d=>qS kB))) kB))) kB)))) kB) kB))) kB)))) kB)) kB) kB))
def z0i(O:Ev.Call)(k4:Nat)(L:TT AV (eF (Tryz.f51.ntmps+1))):=fun x7 H=>qz4 O (fun x2 H=>.ok x2 H) (fun H=>qs5 O (G L 0) H) (G L 0) (G L 5) (G L 6) k4 x7 H
theorem ztg:(aO Tryz.prog 51).f O [x0] H=zHq O x0 H:=
 pA Tryz.func51 (D:=fun L H=>z4e O (G L 0) H)
 (qS (mA (mA (qS (E:=fun L H=>qs5 O (G L 0) H) kB) (mA (pB (qS (E:=fun L H=>zg1 O (fun x2 H=>.ok x2 H) (fun H=>qs5 O (G L 0) H) (G L 0) (G L 5) (G L 6) (G L 7) H) (p0 (D:=fun a L H=>qz4 O (fun x2 H=>.ok x2 H) (fun H=>qs5 O (G L 0) H) (G L 0) (G L 5) (G L 6) a (G L 7) H) (fun a=>qS (mA (mA (qS (E:=fun L H=>q4q O (fun x2 H=>.ok x2 H) (z0i O a L) (G L 0) (G L 5) (G L 7) H) (mA (qS (E:=fun L H=>zgz O (z0i O a L) (G L 7) H) kB) kB)) kB) kB))) (fun _ _=>by kernel_rfl))) kB)) kB))
def q9j(O:Ev.Call)(L:TT AV (eF (Tryz.f46.ntmps+1))):=fun H=>qwj O (G L 1) (G L 2) H
theorem ztm:(aO Tryz.prog 46).f O [x0] H=zHk O x0 H:=
 pA Tryz.func46 (D:=fun L H=>z4k O (G L 0) H)
 (qS (mA (mA (mA (mA (qS (E:=fun L H=>qwj O (G L 1) (G L 2) H) kB) (mA (pB (qS (E:=fun L H=>q44 O (q9j O L) (G L 1) (G L 17) (G L 18) H) (p0 (D:=fun a L H=>qkj O (q9j O L) (G L 1) (G L 17) a (G L 18) H) (fun a=>qS (mA (mA (qS (E:=fun L H=>q41 O (fun b H=>qkj O (q9j O L) (G L 1) (G L 17) a b H) (G L 1) (G L 18) H) (mA (qS (E:=fun L H=>q42 O (fun b H=>qkj O (q9j O L) (G L 1) (G L 17) a b H) (G L 18) H) kB) kB)) kB) kB))) (fun _ _=>by kernel_rfl))) kB)) kB) kB) kB))
theorem zvb:(aO Tryz.prog 127).f O [x0,x1] H=zCf O x0 x1 H:=
 pA Tryz.func127 (D:=fun L H=>z6a O (G L 0) (G L 1) H)
 (qS (mA (mA (mA (mA kB (mA (pB (p0 (D:=fun a L H=>qp5 O (fun H=>za3 O (G L 2) (G L 3) (G L 5) H) (G L 5) (G L 15) (G L 16) a (G L 17) H) (fun a=>qS (mA (mA (mA kB (pB (mA (mA (pB (p0 (D:=fun b L H=>qxj O (fun H=>q56 O (fun c H=>qp5 O (fun H=>za3 O (G L 2) (G L 3) (G L 5) H) (G L 5) (G L 15) (G L 16) a c H) (G L 17) H) (G L 5) (G L 6) (G L 22) (G L 23) b (G L 24) H) (fun b=>qS kB))) kB) kB))) kB) kB)))) kB)) kB) kB) kB))
theorem zvq:(aO Tryz.prog 80).f O [x0] H=zBr O x0 H:=
 pA Tryz.func80 (D:=fun L H=>z6k O (G L 0) H)
 (qS (mA (mA (mA kB (mA (pB (p0 (D:=fun a L H=>qp8 O (fun H=>zk0 O (G L 3) H) (G L 3) (G L 16) (G L 17) a (G L 18) H) (fun a=>qS (mA (mA (mA kB (pB (mA (mA (mA (pB (p0 (D:=fun b L H=>qxp O (fun H=>q6h O (fun c H=>qp8 O (fun H=>zk0 O (G L 3) H) (G L 3) (G L 16) (G L 17) a c H) (G L 18) H) (G L 3) (G L 5) (G L 32) b (G L 33) H) (fun b=>qS kB))) kB) kB) kB))) kB) kB)))) kB)) kB) kB))
theorem zt5:(aO Tryz.prog 184).f O [x0,x1] H=zDp O x0 x1 H:=
 pA Tryz.func184 (D:=fun L H=>z5a O (G L 0) (G L 1) H)
 (qS (mA (mA kB (mA (pB (p0 (D:=fun k2 L H=>zas O (fun x4 H=>.ok x4 H) (fun H=>zi1 O H) (G L 0) (G L 1) (G L 7) k2 (G L 8) H) (fun k2=>qS kB))) kB)) kB))
theorem zvh:(aO Tryz.prog 82).f O [x0,x1,x2,x3] H=zBy O x0 x1 x2 x3 H:=
 pA Tryz.func82 (D:=fun L H=>z6g O (G L 0) (G L 1) (G L 2) (G L 3) H)
 (qS (mA (mA (mA kB (mA (mA (pD (mA (pB (p0 (D:=fun a L H=>q0v O (fun b H=>za7 O b H) (G L 0) (G L 3) (G L 22) (G L 23) a (G L 9) (G L 24) H) (fun a=>qS kB))) kB) kB) kB) kB)) kB) kB))
theorem zwc:(aO Tryz.prog 18).f O [x0,x1,x2] H=zAy O x0 x1 x2 H:=
 pA Tryz.func18 (D:=fun L H=>z7a O (G L 0) (G L 1) (G L 2) H)
 (qS (mA (mA (mA kB (mA (pB (p0 (D:=fun a L H=>q0y O (fun x7 H=>cO (eT (d9 (rV (dB 6 H (G L 6))) (d9 (some x7) (some [])))) H) (fun H=>zbb O (G L 6) H) (G L 2) (G L 3) (G L 6) (G L 8) a (G L 9) H) (fun a=>qS kB))) kB)) kB) kB))
theorem zwb:(aO Tryz.prog 43).f O [x0,x1,x2] H=zAz O x0 x1 x2 H:=
 pA Tryz.func43 (D:=fun L H=>zlv O (G L 0) (G L 1) (G L 2) H)
 (qS (mA (mA (mA (mA (mA kB (mA (pB (p0 (D:=fun a L H=>qft O (fun x0 b H=>qqe O x0 (G L 7) b H) (G L 2) (G L 4) a (G L 0) (G L 8) (G L 9) H) (fun a=>qS kB))) kB)) kB) kB) kB) kB))
theorem zue:(aO Tryz.prog 199).f O [x0,x1] H=zDj O x0 x1 H:=
 pA Tryz.func199 (D:=fun L H=>z5f O (G L 0) (G L 1) H)
 (qS (mA (mA kB (mA (pB (p0 (D:=fun k2 L H=>zau O (fun x4 H=>.ok x4 H) (fun H=>z00 O H) (G L 0) (G L 1) (G L 7) k2 (G L 8) H) (fun k2=>qS kB))) kB)) kB))
theorem zvd:(aO Tryz.prog 126).f O [x0] H=zCd O x0 H:=
 pA Tryz.func126 (D:=fun L H=>z6c O (G L 0) H)
 (qS (mA (mA (mA kB (mA (pB (p0 (D:=fun a L H=>za5 O (fun x2 H=>.ok x2 H) (fun H=>z1k O H) (G L 1) (G L 14) (G L 15) a (G L 16) H) (fun a=>qS kB))) kB)) kB) kB))
theorem zvp:(aO Tryz.prog 52).f O [x0,x1] H=zBs O x0 x1 H:=
 pA Tryz.func52 (D:=fun L H=>z6j O (G L 0) (G L 1) H)
 (qS (mA (mA kB (mA (pB (p0 (D:=fun k2 L H=>za8 O (fun x4 H=>.ok x4 H) (fun H=>zkx O H) (G L 1) (G L 2) k2 (G L 5) H) (fun k2=>qS kB))) kB)) kB))
theorem ztp:(aO Tryz.prog 38).f O [x0] H=zHh O x0 H:=
 pA Tryz.func38 (D:=fun L H=>xba O (G L 0) H)
 (qS (mA (mA (qS (E:=fun L H=>z0j O (G L 0) H) kB) kB) kB))
theorem zuf:(aO Tryz.prog 155).f O [x0,x1] H=zDh O x0 x1 H:=
 pA Tryz.func155 (D:=fun L H=>z5g O (G L 0) (G L 1) H)
 (qS kB)
theorem ztq:(aO Tryz.prog 36).f O [x0] H=zHg O x0 H:=
 pA Tryz.func36 (D:=fun L H=>z4n O (G L 0) H)
 (qS (mA (mA (qS (E:=fun L H=>zhf O (G L 1) (G L 2) H) kB) kB) kB))
theorem zuh:(aO Tryz.prog 154).f O [x0,x1] H=zDf O x0 x1 H:=
 pA Tryz.func154 (D:=fun L H=>z5i O (G L 0) (G L 1) H)
 (qS kB)
theorem zu5:(aO Tryz.prog 140).f O [x0,x1,x2] H=zCm O x0 x1 x2 H:=
 pA Tryz.func140 (D:=fun L H=>z5u O (G L 0) (G L 1) (G L 2) H)
 (qS kB)
theorem zvm:(aO Tryz.prog 110).f O [x0,x1,x2] H=zBv O x0 x1 x2 H:=
 pA Tryz.func110 (D:=fun L H=>z6h O (G L 0) (G L 1) (G L 2) H)
 (qS kB)
theorem zuz:(aO Tryz.prog 86).f O [x0] H=zCq O x0 H:=
 pA Tryz.func86 (D:=fun L H=>zu0 O (G L 0) H)
 (qS kB)
theorem zwe:(aO Tryz.prog 75).f O [x0,x1] H=zAw O x0 x1 H:=
 pA Tryz.func75 (D:=fun L H=>z7c O (G L 0) (G L 1) H)
 (qS kB)
theorem zv1:(aO Tryz.prog 71).f O [x0,x1,x2] H=zBi O x0 x1 x2 H:=
 pA Tryz.func71 (D:=fun L H=>z6r O (G L 0) (G L 1) (G L 2) H)
 (qS kB)
theorem zv6:(aO Tryz.prog 88).f O [x0] H=zBd O x0 H:=
 pA Tryz.func88 (D:=fun L H=>zv7 O (G L 0) H)
 (qS kB)
theorem zuu:(aO Tryz.prog 149).f O [x0,x1] H=zCv O x0 x1 H:=
 pA Tryz.func149 (D:=fun L H=>xbf O (G L 0) (G L 1) H)
 (qS kB)
theorem zt9:(aO Tryz.prog 200).f O [x0] H=zDl O x0 H:=
 pA Tryz.func200 (D:=fun L H=>xbe O (G L 0) H)
 (qS kB)
theorem zwo:(aO Tryz.prog 28).f O [x0] H=zAn O x0 H:=
 pA Tryz.func28 (D:=fun L H=>z7l O (G L 0) H)
 (qS kB)
theorem zux:(aO Tryz.prog 145).f O [x0] H=zCs O x0 H:=
 pA Tryz.func145 (D:=fun L H=>z5q O (G L 0) H)
 (qS kB)
theorem zwn:(aO Tryz.prog 29).f O [x0] H=zAo O x0 H:=
 pA Tryz.func29 (D:=fun L H=>z7k O (G L 0) H)
 (qS kB)
theorem zvk:(aO Tryz.prog 91).f O [x0] H=zBw O x0 H:=
 pA Tryz.func91 (D:=fun L H=>zvl O (G L 0) H)
 (qS kB)
end Go.Di
end
noncomputable section
namespace Go.Di
open Go.Ev Go.Proofs
set_option maxRecDepth 100000
theorem q7{P:Program}{d n:Nat}{O:Ev.Call}{K:Kt d}{f:Operand}{ps:Array Tmp}{a b:Code}(c:(lD a&&lD b)=true):Lk P d n O (.rangeFunc f ps a b) K (fun L H=>fin (endLoop H.nx (qj9 O ((aJ d n f).f L) [.yield H.nx] (aK H (.loop true none d n L ps.toList a b))) L) K):=fun L H=>by
 have e:den P d n (.rangeFunc f ps a b)=⟨fun O L H=>endLoop H.nx (qj9 O ((aJ d n f).f L) [.yield H.nx] (aK H (.loop true none d n L ps.toList a b))) L⟩:=by simp only[den,c]
 rw[e]
def qq9(n:Nat):Code->LP
 | .seq a b=>match qq9 n a with
  |⟨0,_,_,_⟩=>qq9 n b
  |p=>p
 | .block _ b=>qq9 n b
 | .rangeFunc _ ps sa bd=>⟨n,ps.toList,sa,bd⟩
 |_=>⟨0,[],.skip,.skip⟩
def LAc:LP:=qq9 13 (codeOf Tryz.f218)
def LOc:LP:=qq9 53 (codeOf Tryz.f106)
theorem qs2(O:Ev.Call)(x0 x1:AV)(H:Hp):(aO Tryz.prog 218).f O [x0,x1] H=jZ LAc O x0 x1 H:=
 pA Tryz.func218 (D:=fun L H=>qh4 LAc O L (G L 0) (G L 1) H)
 (qS (mA (mA (qS (E:=fun L H=>qgh O (G L 2) H) kB) (mA (pB (qS (E:=fun L H=>qh3 LAc O L (G L 6) H) (q7 (by kernel_rfl)))) kB)) kB))
theorem zvu(O:Ev.Call)(x0:AV)(H:Hp):(aO Tryz.prog 106).f O [x0] H=zBo LOc O x0 H:=
 pA Tryz.func106 (D:=fun L H=>z6n LOc O L (G L 0) H)
 (qS (mA (mA (qS (E:=fun L H=>q6l LOc O L (G L 1) (G L 2) H) (mA (mA (qS (E:=fun L H=>qqa LOc O L (G L 1) H) (mA (qS (E:=fun L H=>q6o O (G L 2) (G L 5) H) kB) (mA (pB (qS (E:=fun L H=>zvt LOc O L (G L 25) H) (q7 (by kernel_rfl)))) kB))) kB) kB)) kB) kB))
theorem q1a{P:Program}{O:Ev.Call}{l:Nat}{v:AV}{H:Hp}{L L1:TT AV 2}(p:LP)(h:H.get l=p.blk true L)(a:(Nat.beq p.ps.length 1&&p.ps.all fun q=>Nat.blt q p.n)=true)(b:(den P 2 p.n p.aC).f O (qfg ((setter 2 p.n).f L .undef) p.ps [v]) H=.ok .normal L1 H):qg5 P O l [v] H=endRound l ((den P 2 p.n p.bd).f O L1 (H.put l (p.blk false L))):=by unfold qg5;have c:([v]:List AV).length=1:=rfl;simp only[h,LP.blk,c,a,lII,b]
theorem ql3(l:Nat)(r:Rc 2):endRound l r=fin r (fun e L H=>endRound l (.ok e L H)):=by cases r<;>rfl
theorem qss(O:Ev.Call)(L:TT AV 2)(l:Nat)(v:AV)(H:Hp)(h:H.get l=LAc.blk true L):qg5 Tryz.prog O l [v] H=fG O l L (G L 2) v (H.put l (LAc.blk false L)):=by rw[q1a LAc h (by kernel_rfl) (L1:=(setter 2 5).f (qfg ((setter 2 13).f L .undef) [7] [v]) v) (by kernel_rfl),ql3];exact(qS (c:=LAc.bd) (P:=Tryz.prog) (n:=13) (E:=fun M H=>fG O l L (G M 2) (G M 5) H) kB (fun M H=>by kernel_rfl) _ _).trans (by kernel_rfl)
theorem zk8(O:Ev.Call)(L:TT AV 2)(l:Nat)(v:AV)(H:Hp)(h:H.get l=LOc.blk true L):qg5 Tryz.prog O l [v] H=vK O l L (G L 5) v (H.put l (LOc.blk false L)):=by
 rw[q1a LOc h (by kernel_rfl) (L1:=(setter 2 6).f (qfg ((setter 2 53).f L .undef) [26] [v]) v) (by kernel_rfl),ql3];have d:Lk Tryz.prog 2 53 O LOc.bd (fun e L H=>endRound l (.ok e L H)) (fun M H=>vK O l L (G M 5) (G M 6) H):=
  qS (c:=LOc.bd) (pB (mA (qS (E:=fun M H=>qhj O l L (G M 5) (G M 6) H) kB) (mA (pB (qS (E:=fun M H=>q6q O (fun H=>qhj O l L (G M 5) (G M 6) H) (G M 5) (G M 27) (G M 28) (G M 29) H) (p0 (D:=fun a M H=>qks O (fun H=>qhj O l L (G M 5) (G M 6) H) (G M 5) (G M 27) (G M 28) a (G M 29) H) (fun a=>qS (mA (mA (qS (E:=fun M H=>q6m O (fun b H=>qks O (fun H=>qhj O l L (G M 5) (G M 6) H) (G M 5) (G M 27) (G M 28) a b H) (G M 5) (G M 27) (G M 29) H) (mA (qS (E:=fun M H=>q6n O (fun b H=>qks O (fun H=>qhj O l L (G M 5) (G M 6) H) (G M 5) (G M 27) (G M 28) a b H) (G M 29) H) kB) kB)) kB) kB))) (fun _ _=>by kernel_rfl))) kB))) (fun M H=>by kernel_rfl)
 exact(d _ _).trans (by kernel_rfl)
end Go.Di
end
