/-
 For FitsObjects: functions in direct style, their contracts, and the plain mathematics, part 3 of 9. No conditions beyond those that each theorem states.
-/
import Derived.Test.YtbfjjkjiokfdgaaGreatEv4
import Derived.Test.YtbfjjkjiokfdgaaGreatConB
import Derived.Test.YtbfjjkjiokfdgaaGreatConA
set_option linter.unusedSimpArgs false
set_option linter.unusedVariables false
open Nat renaming reduceAdd->rB,reduceMul->rI,reduceSub->rK,reduceLeDiff->rL,reduceEqDiff->rN,reduceShiftRight->rS,reduceAnd->r6
noncomputable section
namespace Go.Di
open Go.Ev
variable {P:Program} {d n:Nat} {call:Ev.Call}
theorem pS{α:Type}{c:Code}{K:Kt d}{X Y:α}(e:X=Y)(f:α->TT AV d->pH)(h:Lk P d n call c K (f Y)):Lk P d n call c K (f X):=by rw[e];exact h
theorem dV{f:FuncId}{F:Func}(hf:P.funcs[f]? =some F){args:List AV}(h:(!(F.name == "runtime.NumGoroutine")&&(F.body.isSome&&(qjh (codeOf F)&&(Nat.ble args.length F.ntmps&&Nat.ble (F.ntmps+1) 262144))))=true)
  {D:TT AV (iJ (F.ntmps+1))->pH} (l:Lk P (iJ (F.ntmps+1)) F.ntmps call (codeOf F) (aBf (zU P (iJ (F.ntmps+1)) F.ntmps F.results.toList).f) D) (H:Hp) :
  (aP P f).f call args H=D (mU args 0 (same .undef _)) H:=by
 rw[Bool.and_eq_true,Bool.and_eq_true,Bool.and_eq_true]at h;exact kG hf (by simpa using h.1) h.2.1 h.2.2.1 h.2.2.2 l H
theorem r7{f:FuncId}{F:Func}(hf:P.funcs[f]? =some F){args:List AV}{D:TT AV (iJ (F.ntmps+1))->pH}(l:Lk P (iJ (F.ntmps+1)) F.ntmps call (codeOf F) (aBf (zU P (iJ (F.ntmps+1)) F.ntmps F.results.toList).f) D){H:Hp}{r}(e:D (mU args 0 (same .undef _)) H=r:=by kernel_rfl)(h:(!(F.name == "runtime.NumGoroutine")&&(F.body.isSome&&(qjh (codeOf F)&&(Nat.ble args.length F.ntmps&&Nat.ble (F.ntmps+1) 262144))))=true:=by kernel_rfl):(aP P f).f call args H=r:=(dV hf h l H).trans e
end Go.Di
end
noncomputable section
namespace Go.Di
open Go.Ev
variable {H H' H0:Hp} {S:Nat->Prop} {b i n z:Nat} {l:List AV}
structure LP where
 n:Nat
 ps:List Tmp
 aC:Code
 bd:Code
def LP.blk(p:LP)(b:Bool)(L:TT AV 2):bM:=.loop b none 2 p.n L p.ps p.aC p.bd
def pu(L:TT AV 2):List (Nat×AV)->TT AV 2
 | []=>L
 |p::r=>pu ((setter 2 p.1).f L p.2) r
theorem zv3{l:Nat}{v:AV}{L:TT AV 2}{p:LP}{M:TT AV 2}{E:TT AV 2->pH}{K:Kt 2}(h:H'.get l=p.blk true M):fin (endLoop l (.ok v H') L) (vH i (thn E K))=E L (H'.put l .dead):=by unfold endLoop;simp only[h];rfl
theorem q1i{l:Nat}{L M:TT AV 2}{p:LP}(h:H.get l=p.blk false M):endRound l (.ok .normal L H)=.ok (.bool true) (H.put l (p.blk true M)):=by unfold endRound;simp only[zr3,h];rfl
def qy9(call:Ev.Call)(x2 x5:AV)(H:Hp):R1:=vq (aU 0 x5) H fun a3 H=>vq (aQ H a3) H fun a4 H=>ve (call (.f 121) [a4] H) fun a5 H=>vq (aU 0 x5) H fun a6 H=>ve (fQ H a6 a5) fun _ H=>vq (aV 2 H x5) H fun a8 H=>ve (eB 2 H x2 a8) fun _ H=>eO (jH (iX (rV (aV 2 H x2)) (iX (some (iN 0)) (some [])))) H
def qg4(call:Ev.Call)(l:Nat)(L:TT AV 2)(x5 x6:AV)(H:Hp):R1:=dz 8 H fun b16 H=>dn 0 0 b16 H [] [] (aU 0 x5) fun a17 H p w=>dl 1 1 b16 H p w (fun H=>aQ H a17) fun dB H p w=>dn 2 0 b16 H p w (.val x6) fun dP H p w=>de 4 H p w (call (.f 120) [dP] (bQ 4 p H)) (some true) fun a20 H p w=>da 4 12 b16 H p w (iL 1 (b16+4) (bU (bE [.aA] 1) [(0,1,a20)])) fun a21 H p w=>de 31 H p w (iD 1 24 (bQ 31 p H) dB (jE 1 (bQ 31 p H) a21)) (some true) fun a22 H p w=>dn 6 63 b16 H p w (aU 0 x5) fun a23 H p w=>de 127 H p w (fQ (bQ 127 p H) a23 a22) (some true) fun _ H p w=>jU p H fun H=>endRound l (.ok .normal L H)
def qy8(call:Ev.Call)(g27:pD)(x29:AV)(H:Hp):R1:=vq (aD (aO .add).f x29 (iN 1)) H fun a29 H=>g27 a29 H
def qy7(call:Ev.Call)(g27:pD)(x5 x27 x29:AV)(H:Hp):R1:=vq (aJ 1 x27 x29) H fun a31 H=>vq (aQ H a31) H fun a32 H=>vq (aU 1 x5) H fun a33 H=>vq (aQ H a33) H fun a34 H=>vq (aU 0 x5) H fun a35 H=>vq (aQ H a35) H fun a36 H=>vq (aF a36) H fun a37 H=>vq (aJ 1 a34 a32) H fun a38 H=>ve (fQ H a38 a37) fun _ H=>qy8 call g27 x29 H
def qza(call:Ev.Call)(vJ:pH)(x5 x27 x28:AV)(g27:pD)(x29:AV)(H:Hp):R1:=vq (aD (aO .lss).f x29 x28) H fun a28 H=>cd a28 (qy7 call g27 x5 x27 x29 H) (vJ H)
def qit(call:Ev.Call)(vJ:pH)(x5 x27 x28:AV)(n:Nat):pD:=Nat.rec (motive:=fun _=>pD) (fun _ _=>.bad) (fun _ ih=>qza call vJ x5 x27 x28 ih) n
def qzb(call:Ev.Call)(vJ:pH)(x5 x27 x28:AV):pD:=qit call vJ x5 x27 x28 dO
def rZ(call:Ev.Call)(l:Nat)(L:TT AV 2)(x5 x26:AV)(H:Hp):R1:=vq (aF x26) H fun a26 H=>qzb call (fun H=>qg4 call l L x5 x26 H) x5 x26 a26 (iN 0) H
def zls(LO:LP)(call:Ev.Call)(L:TT AV 2)(x25:AV)(H:Hp):R1:=fin (endLoop H.nx (qf4 call x25 [.yield H.nx] (aS H (LO.blk true L))) L) (vH 0 (thn (fun L H=>qy9 call (G L 2) (G L 5) H) (aBf fun L H=>jH (iX (rV (aV 2 H (G L 2))) (iX (some (G L 3)) (some []))))))
def qlm(LO:LP)(call:Ev.Call)(L:TT AV 2)(x1:AV)(H:Hp):R1:=dz 0 H fun b11 H=>dl 0 0 b11 H [] [] (fun H=>aV 2 H x1) fun a12 H p w=>dl 1 0 b11 H p w (fun H=>aV 2 H x1) fun bO H p w=>de 2 H p w (call (.f 119) [bO] (bQ 2 p H)) (some true) fun bN H p w=>de 7 H p w (call (.f 118) [a12,bN] (bQ 7 p H)) (some true) fun bS H p w=>jU p H fun H=>zls LO call (pu L [(22,a12),(23,bO),(24,bN),(25,bS)]) bS H
def qy6(LO:LP)(call:Ev.Call)(L:TT AV 2)(x1 x2:AV)(H:Hp):R1:=vq (.new (.ptr H.nx 0) (aB 0 [.aA,.aA])) H fun a2 H=>vq (aU 0 x1) H fun a42 H=>vq (aQ H a42) H fun a43 H=>vq (aD (aO .gtr).f a43 (iN 0)) H fun a44 H=>cd a44 (vq (aU 0 x1) H fun a45 H=>vq (aQ H a45) H fun a46 H=>vq (qie [iN 0] 8 H.nx a46 a46) H fun a47 H=>vq (aU 1 a2) H fun a48 H=>ve (fQ H a48 a47) fun _ H=>qlm LO call (pu L [(5,a2),(15,a42),(16,a43),(17,a44),(18,a45),(19,a46),(20,a47),(21,a48)]) x1 H) (qlm LO call (pu L [(5,a2),(15,a42),(16,a43),(17,a44)]) x1 H)
def zuq(LO:LP)(call:Ev.Call)(L:TT AV 2)(x0:AV)(H:Hp):R1:=vq (bJ 2 H.nx x0) H fun a0 H=>vq (.new (.ptr H.nx 0) (aB 0 [.aA,.aA])) H fun a1 H=>vq (aV 2 H a0) H fun a51 H=>ve (call (.f 117) [a51] H) fun a52 H=>vq (aD (aO .neq).f a52 (iN 0)) H fun a53 H=>cd a53 (vq (cO (bU [.aA,.aA] [])) H fun a54 H=>ve (eB 2 H a1 a54) fun _ H=>eO (jH (iX (rV (aV 2 H a1)) (iX (some a52) (some [])))) H) (qy6 LO call (pu L [(1,a0),(2,a1),(3,iN 0),(9,a51),(10,a52),(4,a52),(11,a52),(12,a53)]) a0 a1 H)
def zBo(LO:LP)(call:Ev.Call)(x0:AV)(H:Hp):R1:=zuq LO call (mU [x0] 0 (same .undef 2)) x0 H
def qf7(call:Ev.Call)(x2:AV)(H:Hp):R1:=vq (aQ H x2) H fun a1 H=>.ok a1 H
def d9(call:Ev.Call)(l:Nat)(L:TT AV 2)(x2 x7:AV)(H:Hp):R1:=vq (aQ H x2) H fun a3 H=>vq (iL 1 H.nx (bU (bE [iN 0] 1) [(0,1,x7)])) H fun a4 H=>ve (iD 1 8 H a3 (jE 1 H a4)) fun a5 H=>ve (fQ H x2 a5) fun _ H=>endRound l (.ok .normal L H)
def qho(LA:LP)(call:Ev.Call)(L:TT AV 2)(x1:AV)(H:Hp):R1:=fin (endLoop H.nx (qf4 call x1 [.yield H.nx] (aS H (LA.blk true L))) L) (vH 0 (thn (fun L H=>qf7 call (G L 2) H) (aBf fun L _=>some (G L 4))))
def qhp(LA:LP)(call:Ev.Call)(L:TT AV 2)(x0 x1:AV)(H:Hp):R1:=vq (iY H.nx x0) H fun a0 H=>qho LA call (pu L [(2,a0),(4,.aA),(6,x1)]) x1 H
def jN(LA:LP)(call:Ev.Call)(x0 x1:AV)(H:Hp):R1:=qhp LA call (mU [x0,x1] 0 (same .undef 2)) x0 x1 H
structure aYs(LA LO:LP)(c d:Ev.Call):Prop where
 jN:∀(x0 x1:AV) (H:Hp),c (.f 231) [x0,x1] H=Di.jN LA d x0 x1 H
 d9:∀(L:TT AV 2) (l:Nat) (v:AV) (H:Hp),H.get l=LA.blk true L->c (.y l) [v] H=Di.d9 d l L (G L 2) v (H.put l (LA.blk false L))
 zBo:∀(x0:AV) (H:Hp),c (.f 89) [x0] H=Di.zBo LO d x0 H
 rZ:∀(L:TT AV 2) (l:Nat) (v:AV) (H:Hp),H.get l=LO.blk true L->c (.y l) [v] H=Di.rZ d l L (G L 5) v (H.put l (LO.blk false L))
abbrev rM(LA LO:LP)(C:Nat->Ev.Call):Prop:=∀ k,aYs LA LO (C (k+1)) (C k)
structure Lnk(c d:Ev.Call):Prop where
 zEz:∀ x0 x1 H,c (.f 3) [x0,x1] H=Di.zEz d x0 x1 H
 zDw:∀ x0 H,c (.f 7) [x0] H=Di.zDw d x0 H
 zFa:∀ x0 x1 H,c (.f 8) [x0,x1] H=Di.zFa d x0 x1 H
 zFb:∀ x0 H,c (.f 10) [x0] H=Di.zFb d x0 H
 zFc:∀ x0 H,c (.f 11) [x0] H=Di.zFc d x0 H
 zFd:∀ x0 x1 H,c (.f 9) [x0,x1] H=Di.zFd d x0 x1 H
 zFe:∀ x0 H,c (.f 12) [x0] H=Di.zFe d x0 H
 zFf:∀ x0 H,c (.f 13) [x0] H=Di.zFf d x0 H
 zFg:∀ x0 x1 H,c (.f 15) [x0,x1] H=Di.zFg d x0 x1 H
 zFh:∀ x0 x1 H,c (.f 14) [x0,x1] H=Di.zFh d x0 x1 H
 zAc:∀ x0 H,c (.f 24) [x0] H=Di.zAc d x0 H
 zEc:∀ x0 x1 H,c (.f 25) [x0,x1] H=Di.zEc d x0 x1 H
 zEd:∀ x0 H,c (.f 26) [x0] H=Di.zEd d x0 H
 zAe:∀ x0 H,c (.f 27) [x0] H=Di.zAe d x0 H
 zFi:∀ x0 x1 H,c (.f 29) [x0,x1] H=Di.zFi d x0 x1 H
 zFj:∀ x0 x1 H,c (.f 28) [x0,x1] H=Di.zFj d x0 x1 H
 zFk:∀ x0 H,c (.f 30) [x0] H=Di.zFk d x0 H
 zFl:∀ x0 x1 H,c (.f 32) [x0,x1] H=Di.zFl d x0 x1 H
 zFm:∀ x0 H,c (.f 31) [x0] H=Di.zFm d x0 H
 zFn:∀ x0 x1 H,c (.f 33) [x0,x1] H=Di.zFn d x0 x1 H
 zFo:∀ x0 x1 H,c (.f 34) [x0,x1] H=Di.zFo d x0 x1 H
 zAh:∀ x0 H,c (.f 35) [x0] H=Di.zAh d x0 H
 zAn:∀ x0 H,c (.f 47) [x0] H=Di.zAn d x0 H
 zAo:∀ x0 H,c (.f 48) [x0] H=Di.zAo d x0 H
 zAp:∀ x0 x1 x2 x3 x4 H,c (.f 49) [x0,x1,x2,x3,x4] H=Di.zAp d x0 x1 x2 x3 x4 H
 zAq:∀ x0 H,c (.f 50) [x0] H=Di.zAq d x0 H
 zAr:∀ x0 x1 H,c (.f 51) [x0,x1] H=Di.zAr d x0 x1 H
 zAs:∀ x0 x1 x2 H,c (.f 52) [x0,x1,x2] H=Di.zAs d x0 x1 x2 H
 zAy:∀ x0 x1 x2 H,c (.f 39) [x0,x1,x2] H=Di.zAy d x0 x1 x2 H
 zEi:∀ x0 H,c (.f 53) [x0] H=Di.zEi d x0 H
 zEj:∀ x0 x1 H,c (.f 54) [x0,x1] H=Di.zEj d x0 x1 H
 zEk:∀ x0 x1 H,c (.f 55) [x0,x1] H=Di.zEk d x0 x1 H
 zAt:∀ x0 H,c (.f 56) [x0] H=Di.zAt d x0 H
 zAu:∀ x0 H,c (.f 57) [x0] H=Di.zAu d x0 H
 zFq:∀ x0 x1 H,c (.f 61) [x0,x1] H=Di.zFq d x0 x1 H
 zFr:∀ x0 H,c (.f 60) [x0] H=Di.zFr d x0 H
 zFs:∀ x0 H,c (.f 59) [x0] H=Di.zFs d x0 H
 zFt:∀ x0 x1 H,c (.f 62) [x0,x1] H=Di.zFt d x0 x1 H
 zFu:∀ x0 x1 H,c (.f 63) [x0,x1] H=Di.zFu d x0 x1 H
 zBe:∀ x0 H,c (.f 76) [x0] H=Di.zBe d x0 H
 zBf:∀ x0 x1 x2 x3 H,c (.f 77) [x0,x1,x2,x3] H=Di.zBf d x0 x1 x2 x3 H
 zBg:∀ x0 x1 x2 x3 H,c (.f 78) [x0,x1,x2,x3] H=Di.zBg d x0 x1 x2 x3 H
 zBh:∀ x0 H,c (.f 79) [x0] H=Di.zBh d x0 H
 zBi:∀ x0 x1 x2 H,c (.f 80) [x0,x1,x2] H=Di.zBi d x0 x1 x2 H
 zAz:∀ x0 x1 x2 H,c (.f 81) [x0,x1,x2] H=Di.zAz d x0 x1 x2 H
 zBs:∀ x0 x1 H,c (.f 66) [x0,x1] H=Di.zBs d x0 x1 H
 zEo:∀ x0 x1 H,c (.f 82) [x0,x1] H=Di.zEo d x0 x1 H
 zEp:∀ x0 x1 H,c (.f 83) [x0,x1] H=Di.zEp d x0 x1 H
 zBj:∀ x0 H,c (.f 84) [x0] H=Di.zBj d x0 H
 zBk:∀ x0 H,c (.f 85) [x0] H=Di.zBk d x0 H
 zBl:∀ x0 x1 x2 x3 x4 x5 x6 H,c (.f 86) [x0,x1,x2,x3,x4,x5,x6] H=Di.zBl d x0 x1 x2 x3 x4 x5 x6 H
 zBm:∀ x0 x1 x2 x3 H,c (.f 87) [x0,x1,x2,x3] H=Di.zBm d x0 x1 x2 x3 H
 zBn:∀ x0 H,c (.f 88) [x0] H=Di.zBn d x0 H
 zBp:∀ x0 H,c (.f 90) [x0] H=Di.zBp d x0 H
 zBq:∀ x0 H,c (.f 91) [x0] H=Di.zBq d x0 H
 zBc:∀ x0 H,c (.f 92) [x0] H=Di.zBc d x0 H
 zFv:∀ x0 H,c (.f 95) [x0] H=Di.zFv d x0 H
 zBt:∀ x0 x1 x2 H,c (.f 104) [x0,x1,x2] H=Di.zBt d x0 x1 x2 H
 zEu:∀ x0 x1 H,c (.f 105) [x0,x1] H=Di.zEu d x0 x1 H
 zEv:∀ x0 x1 H,c (.f 106) [x0,x1] H=Di.zEv d x0 x1 H
 zBu:∀ x0 H,c (.f 107) [x0] H=Di.zBu d x0 H
 zBr:∀ x0 H,c (.f 108) [x0] H=Di.zBr d x0 H
 zBv:∀ x0 x1 x2 H,c (.f 109) [x0,x1,x2] H=Di.zBv d x0 x1 x2 H
 zBw:∀ x0 H,c (.f 110) [x0] H=Di.zBw d x0 H
 zBx:∀ x0 x1 x2 H,c (.f 111) [x0,x1,x2] H=Di.zBx d x0 x1 x2 H
 zBy:∀ x0 x1 x2 x3 H,c (.f 112) [x0,x1,x2,x3] H=Di.zBy d x0 x1 x2 x3 H
 zBz:∀ x0 x1 H,c (.f 113) [x0,x1] H=Di.zBz d x0 x1 H
 zCb:∀ x0 H,c (.f 116) [x0] H=Di.zCb d x0 H
 zCc:∀ x0 H,c (.f 115) [x0] H=Di.zCc d x0 H
 zCd:∀ x0 H,c (.f 117) [x0] H=Di.zCd d x0 H
 zCe:∀ x0 H,c (.f 119) [x0] H=Di.zCe d x0 H
 zCf:∀ x0 x1 H,c (.f 118) [x0,x1] H=Di.zCf d x0 x1 H
 zBd:∀ x0 H,c (.f 120) [x0] H=Di.zBd d x0 H
 zCg:∀ x0 H,c (.f 121) [x0] H=Di.zCg d x0 H
 zCi:∀ x0 H,c (.f 131) [x0] H=Di.zCi d x0 H
 zCj:∀ x0 x1 x2 x3 H,c (.f 133) [x0,x1,x2,x3] H=Di.zCj d x0 x1 x2 x3 H
 zCk:∀ x0 x1 H,c (.f 134) [x0,x1] H=Di.zCk d x0 x1 H
 zCl:∀ x0 x1 x2 x3 H,c (.f 136) [x0,x1,x2,x3] H=Di.zCl d x0 x1 x2 x3 H
 zCm:∀ x0 x1 x2 H,c (.f 138) [x0,x1,x2] H=Di.zCm d x0 x1 x2 H
 zCn:∀ x0 H,c (.f 132) [x0] H=Di.zCn d x0 H
 zCo:∀ x0 x1 x2 x3 x4 x5 x6 H,c (.f 140) [x0,x1,x2,x3,x4,x5,x6] H=Di.zCo d x0 x1 x2 x3 x4 x5 x6 H
 zCp:∀ x0 H,c (.f 142) [x0] H=Di.zCp d x0 H
 zCq:∀ x0 H,c (.f 143) [x0] H=Di.zCq d x0 H
 zCr:∀ x0 x1 H,c (.f 144) [x0,x1] H=Di.zCr d x0 x1 H
 zCs:∀ x0 H,c (.f 145) [x0] H=Di.zCs d x0 H
 zCt:∀ x0 H,c (.f 93) [x0] H=Di.zCt d x0 H
 zCu:∀ x0 x1 H,c (.f 150) [x0,x1] H=Di.zCu d x0 x1 H
 zCv:∀ x0 x1 H,c (.f 148) [x0,x1] H=Di.zCv d x0 x1 H
 zCw:∀ x0 x1 x2 x3 H,c (.f 149) [x0,x1,x2,x3] H=Di.zCw d x0 x1 x2 x3 H
 zCx:∀ x0 H,c (.f 165) [x0] H=Di.zCx d x0 H
 zCy:∀ x0 x1 H,c (.f 135) [x0,x1] H=Di.zCy d x0 x1 H
 zCz:∀ x0 x1 x2 H,c (.f 137) [x0,x1,x2] H=Di.zCz d x0 x1 x2 H
 zDa:∀ x0 x1 H,c (.f 139) [x0,x1] H=Di.zDa d x0 x1 H
 zDb:∀ x0 H,c (.f 141) [x0] H=Di.zDb d x0 H
 zDc:∀ x0 H,c (.f 171) [x0] H=Di.zDc d x0 H
 zDd:∀ x0 x1 H,c (.f 181) [x0,x1] H=Di.zDd d x0 x1 H
 zDe:∀ x0 x1 H,c (.f 182) [x0,x1] H=Di.zDe d x0 x1 H
 zDf:∀ x0 x1 H,c (.f 65) [x0,x1] H=Di.zDf d x0 x1 H
 zDg:∀ x0 x1 H,c (.f 167) [x0,x1] H=Di.zDg d x0 x1 H
 zDh:∀ x0 x1 H,c (.f 166) [x0,x1] H=Di.zDh d x0 x1 H
 zDj:∀ x0 x1 H,c (.f 211) [x0,x1] H=Di.zDj d x0 x1 H
 zDk:∀ x0 H,c (.f 213) [x0] H=Di.zDk d x0 H
 zDl:∀ x0 H,c (.f 212) [x0] H=Di.zDl d x0 H
 zDm:∀ x0 x1 H,c (.f 99) [x0,x1] H=Di.zDm d x0 x1 H
 zDn:∀ x0 x1 H,c (.f 169) [x0,x1] H=Di.zDn d x0 x1 H
 zDo:∀ x0 x1 H,c (.f 168) [x0,x1] H=Di.zDo d x0 x1 H
 zDp:∀ x0 x1 H,c (.f 198) [x0,x1] H=Di.zDp d x0 x1 H
 zDq:∀ x0 x1 H,c (.f 227) [x0,x1] H=Di.zDq d x0 x1 H
 zDr:∀ x0 H,c (.f 226) [x0] H=Di.zDr d x0 H
 zDs:∀ x0 x1 H,c (.f 199) [x0,x1] H=Di.zDs d x0 x1 H
abbrev bA(C:Nat->Ev.Call):Prop:=∀ k,Lnk (C (k+1)) (C k)
abbrev qqs(C:Nat->Ev.Call):Prop:=bA C
theorem dM:cK=1000000:=rfl
attribute [go_sem] qlw qlv qlu qlt qpb qsb qpa qsa qo9 qr9 qo8 qr8 qo7 qr7 qo6 qr6 qo5 qr5 qow qq1 qov qq0 qou qqz qui qyk
theorem Gl.qJ{v:AV}(h:Gl z H v n l)(hi:i<n):∃ b o,aJ z v (iN i)=.val (.ptr b o)/\b<H.nx/\In v b/\fU (H.get b) o z=some ((l.drop (i*z)).take z)/\∀(j:Nat),j<z->dI (H.get b) (o+j)=.val (l.getD (i*z+j) .undef):=by
 have hl:=h.len;rcases h.is with⟨rfl,rfl⟩|⟨b,o,e,q,L,rfl,h1,h2,h3,h4,h5⟩
 ·omega
 ·have hm:i*z+z<=n*z:=by
   have:(i+1)*z<=n*z:=Nat.mul_le_mul_right z hi;rw[Nat.add_mul,Nat.one_mul]at this;exact this
  have hL:o+n*z=L.length:=by rw[<-h3,List.length_drop]at hl;omega
  refine⟨b,o+i*z,sP _ _ _ _ _ _ _ _ hi,h5,⟨_,_,_,_,rfl⟩,?_,fun j hj=>?_⟩
  ·rw[h1,qb2,if_pos (by omega),<-List.drop_drop,h3]
  ·rw[h1,qb6];have:L[o+i*z+j]? =l[i*z+j]? :=by rw[<-h3,List.getElem?_drop];congr 1;omega
   rw[this,List.getElem?_eq_getElem (by omega)];simp[List.getD_eq_getElem?_getD,show i*z+j<l.length by omega]
structure Rs{α:Type}(z:Nat)(f:α->List AV)(H:Hp)(v:AV)(l:List α):Prop where
 len:aF v=.val (iN (l.length))
 at':∀ i (h:i<l.length),∃b o,aJ z v (iN i)=.val (.ptr b o)/\b<H.nx/\In v b/\fU (H.get b) o z=some (f l[i])/\∀ j (h:j<(f l[i]).length),dI (H.get b) (o+j)=.val (f l[i])[j]
theorem Rs.iQ{α:Type}{f:α->List AV}{v:AV}{l:List α}(h:Rs z f H v l)(a:Fm S H H')(hs:∀ b,In v b->¬ S b):Rs z f H' v l:=⟨h.len,fun i hi=>by obtain⟨b,o,h1,h2,h5,h3,h4⟩:=h.at' i hi;have e:=a.get b h2 (hs b h5);exact⟨b,o,h1,Nat.lt_of_lt_of_le h2 a.nx,h5,by rw[e];exact h3,fun j hj=>by rw[e];exact h4 j hj⟩⟩
theorem Rs.fm{α:Type}{f:α->List AV}{v:AV}{l:List α}(h:Rs z f H v l)(a:Fm No H H'):Rs z f H' v l:=h.iQ a fun _ _ h=>h
structure Ac{α:Type}(z:Nat)(f:α->List AV)(H0 H:Hp)(v:AV)(l:List α):Prop where
 gl:Gl z H v l.length (l.flatMap f)
 fm:Fm No H0 H
 nw:∀ b,In v b->H0.nx<=b
theorem Ac.nil{α:Type}(z:Nat)(f:α->List AV)(h:Fm No H0 H):Ac z f H0 H .aA ([]:List α):=⟨Gl.nil z H,h,fun b hb=>by obtain⟨_,_,_,_,h⟩:=hb;cases h⟩
theorem Ac.no{α:Type}{f:α->List AV}{v:AV}{l:List α}(h:Ac z f H0 H v l)(a:Fm No H H'):Ac z f H0 H' v l:=⟨h.gl.no a,h.fm.trans a,h.nw⟩
theorem Ac.dA{α:Type}{f:α->List AV}{v:AV}{l:List α}(h:Ac z f H0 H v l):aF v=.val (iN (l.length)):=h.gl.dA
theorem Ac.add{α:Type}{f:α->List AV}{v:AV}{l:List α}(h:Ac z f H0 H v l)(x:α)(w:Nat)(hx:(f x).length=z)(hb:(l.length+1)*w<=1099511627776)(hb2:l.length+1<=1099511627776):Ok (iD z w H v (some ⟨1,f x⟩)) fun v' H'=>Ac z f H0 H' v' (l++[x]):=by
 obtain⟨H',e,gl',_,fm',nx'⟩:=h.gl.append (k:=1) (w:=w) (x:=f x) (by omega) (by omega) hb hb2;refine⟨_,H',e,?_,h.fm.then fm' fun c hc hi=>by have:=h.nw c hi;omega,fun b hb=>?_⟩
 ·simp_all
 ·obtain⟨_,_,_,_,h'⟩:=hb;cases h';exact h.fm.nx
theorem qhj{α:Type}{z:Nat}{f:α->List AV}(hf:∀ x,(f x).length=z):∀(l:List α) (i:Nat) (h:i<l.length),((l.flatMap f).drop (i*z)).take z=f l[i]
 | [],_,h=>by simp at h
 |a::l,0,_=>by simp_all
 |a::l,i+1,h=>by rw[List.flatMap_cons,Nat.add_mul,Nat.one_mul,Nat.add_comm,<-List.drop_drop,List.drop_left' (hf a)];exact qhj hf l i (by simpa using h)
theorem Gl.rs{α:Type}{f:α->List AV}(hf:∀ x,(f x).length=z){v:AV}{l:List α}(h:Gl z H v l.length (l.flatMap f)):Rs z f H v l:=⟨h.dA,fun i hi=>by
 obtain⟨b,o,e1,e2,e3,e4,e5⟩:=h.qJ hi;rw[qhj hf l i hi]at e4;refine⟨b,o,e1,e2,e3,e4,fun j hj=>?_⟩;rw[e5 j (by rw[hf]at hj;exact hj)];have:(f l[i])[j]? =(l.flatMap f)[i*z+j]?:=by rw[<-qhj hf l i hi,List.getElem?_take,if_pos (by rw[hf]at hj;exact hj),List.getElem?_drop]
 rw[List.getElem?_eq_getElem hj]at this;rw[List.getD_eq_getElem?_getD,<-this];rfl⟩
theorem Ac.rs{α:Type}{f:α->List AV}(hf:∀ x,(f x).length=z){v:AV}{l:List α}(h:Ac z f H0 H v l):Rs z f H v l:=h.gl.rs hf
theorem Gl.lt{v:AV}(h:Gl z H v n l)(hb:In v b):b<H.nx:=by
 obtain⟨o,n',m,e,rfl⟩:=hb;rcases h.is with⟨h1,_⟩|⟨b',o',e',q,L,h1,_,_,_,_,h5⟩
 ·cases h1
 ·simp_all
structure mR{α:Type}(z:Nat)(f:α->List AV)(S:Nat->Prop)(H0 H:Hp)(v:AV)(l:List α):Prop where
 gl:Gl z H v l.length (l.flatMap f)
 fm:Fm S H0 H
 nw:∀ b,In v b->S b\/H0.nx<=b
theorem mR.no{α:Type}{f:α->List AV}{v:AV}{l:List α}(h:mR z f S H0 H v l)(a:Fm No H H'):mR z f S H0 H' v l:=⟨h.gl.no a,h.fm.then a fun _ _ h=>absurd h id,h.nw⟩
theorem mR.dA{α:Type}{f:α->List AV}{v:AV}{l:List α}(h:mR z f S H0 H v l):aF v=.val (iN (l.length)):=h.gl.dA
theorem mR.add{α:Type}{f:α->List AV}{v:AV}{l:List α}(h:mR z f S H0 H v l)(x:α)(w:Nat)(hx:(f x).length=z)(hb:(l.length+1)*w<=1099511627776)(hb2:l.length+1<=1099511627776):Ok (iD z w H v (some ⟨1,f x⟩)) fun v' H'=>mR z f S H0 H' v' (l++[x]):=by
 obtain⟨H',e,gl',_,fm',nx'⟩:=h.gl.append (k:=1) (w:=w) (x:=f x) (by omega) (by omega) hb hb2;refine⟨_,H',e,?_,h.fm.then fm' fun c hc hi=>?_,fun b hb=>?_⟩
 ·simp_all
 ·rcases h.nw c hi with h|h
  ·exact h
  ·omega
 ·obtain⟨_,_,_,_,h'⟩:=hb;cases h';exact .inr h.fm.nx
theorem Ac.start{α:Type}{f:α->List AV}{v:AV}{l:List α}(h:Ac z f H0 H v l):mR z f (In v) H H v l:=⟨h.gl,Fm.refl _ _,fun _ h=>.inl h⟩
theorem Ac.old{α:Type}{f:α->List AV}{v:AV}{l:List α}(h:Ac z f H0 H v l)(a:Fm (In v) H H'):Fm No H0 H':=h.fm.then a fun c hc hi=>by have:=h.nw c hi;omega
theorem Ac.fin{α:Type}{f:α->List AV}{v v':AV}{l l':List α}(h:Ac z f H0 H v l)(h':mR z f (In v) H H' v' l'):Ac z f H0 H' v' l':=⟨h'.gl,h.old h'.fm,fun b hb=>by
 rcases h'.nw b hb with h1|h1
 ·exact h.nw b h1
 ·exact Nat.le_trans h.fm.nx h1⟩
end Go.Di
end
noncomputable section
namespace Go.Di
open Go.Ev
variable {C:Nat->Ev.Call}
variable {H H' H0 H1:Hp} {S:Nat->Prop} {b i j k m n z:Nat} {call:Ev.Call} {cs l:List AV} {neg:Bool} {sv:AV}
structure SS where
 n:Nat
 a:Nat
 deriving DecidableEq
def SS.v(s:SS):AV:=.str s.n s.a
def sE:SS:=⟨0,0⟩
def sU:SS:=⟨4,1919251317⟩
def lvl(n:Nat):Nat:=[0,1,1,2].getD (n%4) 0
def eU(n:Nat):SS:=⟨2,12402+256*(n%4)⟩
def bV(n:Nat):SS:=⟨1,97+n%3⟩
def bG(L:List (List Nat)):Nat:=min L.length 12
def dZ(L:List (List Nat))(n i:Nat):Nat:=(L.getD n []).getD i 0
structure Rl(H:Hp)(v:AV)(l:List AV):Prop where
 len:aF v=.val (iN (l.length))
 at':∀ i (h:i<l.length),∃b o,aJ 1 v (iN i)=.val (.ptr b o)/\b<H.nx/\dI (H.get b) o=.val l[i]
theorem Rl.fm{v:AV}(h:Rl H v l)(f:Fm No H H'):Rl H' v l:=⟨h.len,fun i hi=>by obtain⟨b,o,h1,h2,h3⟩:=h.at' i hi;exact⟨b,o,h1,Nat.lt_of_lt_of_le h2 f.nx,by rw[f.keep h2];exact h3⟩⟩
def vX(l:List Nat):List AV:=l.map fun x=>.int .u8 (.ofNat x)
structure gN(H:Hp)(v:AV)(L:List (List Nat)):Prop where
 flat:yG v=true
 ex:∃ ws:List AV,Rl H v ws/\ws.length=L.length/\∀ i (h:i<ws.length) (h':i<L.length),Rl H ws[i] (vX L[i])
 lt:∀ l∈L,∀x∈l,x<256
theorem gN.fm{v:AV}{L:List (List Nat)}(h:gN H v L)(f:Fm No H H'):gN H' v L:=by obtain⟨ws,h1,h2,h3⟩:=h.ex;exact⟨h.flat,⟨ws,h1.fm f,h2,fun i a b=>(h3 i a b).fm f⟩,h.lt⟩
theorem gN.len{v:AV}{L:List (List Nat)}(h:gN H v L):aF v=.val (iN (L.length)):=by obtain⟨ws,h1,h2,_⟩:=h.ex;rw[h1.len,h2]
theorem gN.at{v:AV}{L:List (List Nat)}(h:gN H v L)(hi:i<L.length):∃ b o w,aJ 1 v (iN i)=.val (.ptr b o)/\b<H.nx/\dI (H.get b) o=.val w/\Rl H w (vX L[i]):=by obtain⟨ws,h1,h2,h3⟩:=h.ex;obtain⟨b,o,e1,e2,e3⟩:=h1.at' i (by omega);exact⟨b,o,ws[i]'(by omega),e1,e2,e3,h3 i (by omega) hi⟩
theorem q7w(n a:Nat):xP (.str n a)=some [.str n a]:=id rfl
theorem zzm(x:List AV):bE x 4=x++(x++(x++x)):=id (by show x++(x++(x++(x++[])))=_;rw[List.append_nil])
attribute [go_sem] q7w zzm
theorem aYB(a b:Nat):o8 nJ (iN a) [iN b]=.val (iN ((min a b))):=by
 show R0.val (.int .i64 (bif oL (.ofNat b) (.ofNat a)then .ofNat b else .ofNat a))=_;rw[yT];by_cases h:b<a
 ·rw[decide_eq_true (by simp only[Int.ofNat_eq_natCast];omega),Nat.min_eq_right (by omega)];rfl
 ·rw[decide_eq_false (by simp only[Int.ofNat_eq_natCast];omega),Nat.min_eq_left (by omega)];rfl
theorem qjj(hC:bA C)(hk:1<=k){v:AV}{L:List (List Nat)}(h:gN H v L):Ok (C k (.f 47) [.agg [v]] H) fun r H'=>r=iN ((bG L))/\Fm No H H':=by obtain⟨j,rfl⟩:=aX hk;rw[(hC j).zAn];unfold zAn zvc;have e:=h.len;simp(disch:=first|omega|exact ti rfl|simp only[np,nq];first|done|omega)only[go_sem,rB,rI,rK,rL,rN,rS,r6,e,aYB];exact Ok.ret ⟨rfl,by(repeat(first|exact Fm.refl _ _|assumption|refine Fm.push ?_ _|refine Fm.oV ?_ (by first|omega|simp only[np,nq];omega)|refine Fm.aG ?_ _ _ (by first|omega|simp only[np,nq];omega)))⟩
theorem at4{α:Type}(a b c d:α)(n:Nat):[a,b,c,d][n%4]? =some ([a,b,c,d].getD (n%4) a):=by
 have h4:n%4<4:=Nat.mod_lt _ (by omega)
 match n%4,h4 with
 |0,_|1,_|2,_|3,_=>rfl
theorem at3{α:Type}(a b c:α)(n:Nat):[a,b,c][n%3]? =some ([a,b,c].getD (n%3) a):=by
 have h3:n%3<3:=Nat.mod_lt _ (by omega)
 match n%3,h3 with
 |0,_|1,_|2,_=>rfl
theorem qd4(hC:bA C)(hk:1<=k)(n:Nat)(hn:n<1000000)(H:Hp):Ok (C k (.f 79) [iN n] H) fun r H'=>r=iN ((lvl n))/\Fm No H H':=by
 obtain⟨j,rfl⟩:=aX hk;rw[(hC j).zBh];unfold zBh zux;have h4:n%4<4:=Nat.mod_lt _ (by omega);simp(disch:=first|omega|exact ti rfl|simp only[np,nq];first|done|omega)only[go_sem,rB,rI,rK,rL,rN,rS,r6,at4];refine Ok.ret ⟨?_,by(repeat(first|exact Fm.refl _ _|assumption|refine Fm.push ?_ _|refine Fm.oV ?_ (by first|omega|simp only[np,nq];omega)|refine Fm.aG ?_ _ _ (by first|omega|simp only[np,nq];omega)))⟩;unfold lvl
 match n%4,h4 with
 |0,_|1,_|2,_|3,_=>rfl
theorem qvr(hC:bA C)(hk:1<=k)(n:Nat)(hn:n<1000000)(H:Hp):Ok (C k (.f 50) [iN n] H) fun r H'=>r=(eU n).v/\Fm No H H':=by
 obtain⟨j,rfl⟩:=aX hk;rw[(hC j).zAq];unfold zAq zva;have h4:n%4<4:=Nat.mod_lt _ (by omega);simp(disch:=first|omega|exact ti rfl|simp only[np,nq];first|done|omega)only[go_sem,rB,rI,rK,rL,rN,rS,r6,at4];refine Ok.ret ⟨?_,by(repeat(first|exact Fm.refl _ _|assumption|refine Fm.push ?_ _|refine Fm.oV ?_ (by first|omega|simp only[np,nq];omega)|refine Fm.aG ?_ _ _ (by first|omega|simp only[np,nq];omega)))⟩;unfold eU SS.v
 match n%4,h4 with
 |0,_|1,_|2,_|3,_=>rfl
theorem qkq(hC:bA C)(hk:1<=k)(n:Nat)(hn:n<1000000)(H:Hp):Ok (C k (.f 48) [iN n] H) fun r H'=>r=(bV n).v/\Fm No H H':=by
 obtain⟨j,rfl⟩:=aX hk;rw[(hC j).zAo];unfold zAo zvb;have h3:n%3<3:=Nat.mod_lt _ (by omega);simp(disch:=first|omega|exact ti rfl|simp only[np,nq];first|done|omega)only[go_sem,rB,rI,rK,rL,rN,rS,r6,at3];refine Ok.ret ⟨?_,by(repeat(first|exact Fm.refl _ _|assumption|refine Fm.push ?_ _|refine Fm.oV ?_ (by first|omega|simp only[np,nq];omega)|refine Fm.aG ?_ _ _ (by first|omega|simp only[np,nq];omega)))⟩;unfold bV SS.v
 match n%3,h3 with
 |0,_|1,_|2,_=>rfl
theorem q1s(hC:bA C)(hk:1<=k){v:AV}{L:List (List Nat)}(h:gN H v L)(hn:n<L.length):Ok (C k (.f 80) [.agg [v],iN n,iN i] H) fun r H'=>r=.int .u8 (.ofNat (dZ L n i))/\Fm No H H':=by
 obtain⟨j,rfl⟩:=aX hk;rw[(hC j).zBi];unfold zBi zuw;have f0:Fm No H (aS H (aB 0 [v])):=by exact lT
 obtain⟨b,o,w,e1,e2,e3,e4⟩:=(h.fm f0).at hn;have el:=e4.len;have ell:(vX L[n]).length=L[n].length:=by simp[vX]
 rw[ell]at el;have hnd:L.getD n []=L[n]:=by rw[List.getD_eq_getElem?_getD,List.getElem?_eq_getElem hn];rfl
 by_cases hi:i<L[n].length
 ·obtain⟨b1,o1,g1,g2,g3⟩:=e4.at' i (by omega);have hv:(vX L[n])[i]'(by omega)=.int .u8 (.ofNat (dZ L n i)):=by
   unfold dZ;rw[hnd,List.getD_eq_getElem?_getD,List.getElem?_eq_getElem hi];simp[vX]
  rw[hv]at g3;simp(disch:=omega)only[go_sem,seval,e1,e3,el,hi,g1,g3];exact Ok.ret ⟨rfl,f0⟩
 ·have hv:dZ L n i=0:=by
   unfold dZ;simp_all
  simp(disch:=omega)only[go_sem,seval,e1,e3,el,hi];rw[hv];exact Ok.ret ⟨rfl,f0⟩
def ruV(k:Nat)(r t:SS)(a:AV):AV:=.agg [.int .u8 (.ofNat k),r.v,t.v,a]
def sC(s:SS):List AV:=[s.v]
theorem q6g(H:Hp)(b o n a:Nat):fQ H (.ptr b o) (.str n a)=storeAt H b o [.str n a] .undef:=id rfl
attribute [go_sem] q6g
theorem qfw(hC:bA C)(hk:1<=k)(neg:Bool)(H:Hp):Ok (C k (.f 76) [.bool neg] H) fun r H'=>r=(if neg then ruV 2 (eU 0) sE .aA else ruV 1 sE sE .aA)/\Fm No H H':=by
 obtain⟨j,rfl⟩:=aX hk;rw[(hC j).zBe];unfold zBe zu1;cases neg
 ·simp only[go_sem];unfold zq5;simp(disch:=omega)only[go_sem,seval];exact Ok.ret ⟨rfl,by(repeat(first|exact Fm.refl _ _|assumption|refine Fm.push ?_ _|refine Fm.oV ?_ (by first|omega|simp only[np,nq];omega)|refine Fm.aG ?_ _ _ (by first|omega|simp only[np,nq];omega)))⟩
 ·simp(disch:=omega)only[go_sem,seval];exact Ok.ret ⟨rfl,by(repeat(first|exact Fm.refl _ _|assumption|refine Fm.push ?_ _|refine Fm.oV ?_ (by first|omega|simp only[np,nq];omega)|refine Fm.aG ?_ _ _ (by first|omega|simp only[np,nq];omega)))⟩
def qkd(n k:Nat)(neg:Bool):Bool:=decide (lvl k<lvl n)||(!neg&&decide (lvl k=lvl n))
theorem zg6(hC:bA C)(hk:2<=k)(n m:Nat)(hn:n<1000000)(hm:m<1000000)(neg:Bool)(H:Hp):Ok (C k (.f 104) [iN n,iN m,.bool neg] H) fun r H'=>r=.bool (qkd n m neg)/\Fm No H H':=by
 obtain⟨j,rfl⟩:=aX hk;rw[(hC j).zBt];refine Ok.ve (qd4 hC (k:=j) (by omega) m hm H) ?_;rintro _ H1 ⟨rfl,f1⟩;refine Ok.ve (qd4 hC (k:=j) (by omega) n hn H1) ?_;rintro _ H2 ⟨rfl,f2⟩;unfold qkd;by_cases h:lvl m<lvl n
 ·have hd:(lvl m<lvl n)=True:=eq_true h;simp only[go_sem,hd];exact Ok.ret ⟨by simp,f1.trans f2⟩
 ·cases neg
  ·simp only[go_sem,h];refine Ok.ve (qd4 hC (k:=j) (by omega) m hm H2) ?_;rintro _ H3 ⟨rfl,f3⟩;refine Ok.ve (qd4 hC (k:=j) (by omega) n hn H3) ?_;rintro _ H4 ⟨rfl,f4⟩;simp only[go_sem];exact Ok.ret ⟨by simp,((f1.trans f2).trans f3).trans f4⟩
  ·simp only[go_sem,h];exact Ok.ret ⟨by simp,f1.trans f2⟩
def rg(a b:Nat):List Nat:=(List.range b).drop a
theorem qja{a i:Nat}(h:a<=i):rg a (i+1)=rg a i++[i]:=by unfold rg;rw[List.range_succ,List.drop_append_of_le_length (by simpa using h)]
theorem qs1(a:Nat):rg a a=[]:=by unfold rg;rw[List.drop_eq_nil_of_le (by simp)]
theorem qfu{a b x:Nat}:x∈rg a b↔a<=x/\x<b:=by
 unfold rg;rw[List.mem_iff_getElem];constructor
 ·rintro ⟨i,h,rfl⟩;simp at h ⊢;omega
 ·intro h;exact⟨x-a,by simp;omega,by simp;omega⟩
theorem qj5(a b:Nat):(rg a b).length=b-a:=by unfold rg;simp
def cmpL(m n:Nat)(neg:Bool):List SS:=((rg (n / 4*4) (min m (n / 4*4+4))).filter (qkd n · neg)).map eU
theorem zrt(s:SS):(sC s).length=1:=rfl
structure wO(H:Hp)(b:Nat)(v:AV):Prop where
 lt:b<H.nx
 is:H.get b=aB 0 [v]
theorem wO.fm{v:AV}(h:wO H b v)(f:Fm No H H'):wO H' b v:=⟨Nat.lt_of_lt_of_le h.lt f.nx,(f.keep h.lt).trans h.is⟩
theorem qfb(hC:bA C){j:Nat}(hj:2<=j){v:AV}{L:List (List Nat)}{n cb:Nat}{neg:Bool}(hn:n<100000){H1:Hp}{Q:pL}{q:pD}(hv:gN H1 v L)(hb:wO H1 cb v)(hq:∀ w H,Ac 1 sC H1 H w (cmpL (bG L) n neg)->Ok (q w H) Q):∀(k i:Nat) (w:AV) (H:Hp),n / 4*4<=i->i<=max (min (bG L) (n / 4*4+4)) (n / 4*4)->n / 4*4+4-i<k->Ac 1 sC H1 H w (((rg (n / 4*4) i).filter (qkd n · neg)).map eU) -> Ok (qrj (C j) q (iN n) (.bool neg) (.ptr cb 0) k w (iN i) H) Q
 |0,i,_,_,_,_,h,_=>by omega
 |k+1,i,w,H,hi,hi2,hk,hw=>by
  show Ok (qzj (C j) _ _ _ _ (qrj (C j) _ _ _ _ k) _ _ H) Q;unfold qzj;have hbH:=hb.fm hw.fm;have e0:=hbH.is;simp only[go_sem,e0];refine Ok.ve (qjj hC (k:=j) (by omega) (hv.fm hw.fm)) ?_;rintro _ H2 ⟨rfl,f2⟩;have hw2:=hw.no f2;by_cases hlt:i<bG L/\i<n / 4*4+4
  ·obtain⟨h1,h2⟩:=hlt;simp(disch:=first|omega|exact ti rfl|simp only[np,nq];first|done|omega)only[go_sem,rB,rI,rK,rL,rN,rS,r6,h1,h2];refine Ok.ve (zg6 hC (k:=j) (by omega) n i (by omega) (by omega) neg H2) ?_;rintro _ H3 ⟨rfl,f3⟩;have hw3:=hw2.no f3;have hr:=qja hi;cases hf:qkd n i neg
   ·simp only[go_sem];unfold qrk;simp(disch:=first|omega|exact ti rfl|simp only[np,nq];first|done|omega)only[go_sem,rB,rI,rK,rL,rN,rS,r6];refine qfb hC hj hn hv hb hq k (i+1) w H3 (by omega) (by omega) (by omega) ?_;simp_all
   ·simp only[go_sem];refine Ok.ve (qvr hC (k:=j) (by omega) i (by omega) H3) ?_;rintro _ H4 ⟨rfl,f4⟩;have hw4:=hw3.no f4;unfold SS.v;simp(disch:=omega)only[go_sem,seval];have hl:(((rg (n / 4*4) i).filter (qkd n · neg)).map eU).length<=4:=by
     rw[List.length_map];refine Nat.le_trans (List.length_filter_le _ _) ?_;rw[qj5];omega
    refine Ok.ve ((hw4.no ((Fm.refl No H4).push (aB 0 [.str (eU i).n (eU i).a]))).add (eU i) 16 rfl (by omega) (by omega)) ?_;intro w5 H5 hw5;unfold qrk;simp(disch:=first|omega|exact ti rfl|simp only[np,nq];first|done|omega)only[go_sem,rB,rI,rK,rL,rN,rS,r6];refine qfb hC hj hn hv hb hq k (i+1) w5 H5 (by omega) (by omega) (by omega) ?_;simp_all
  ·have he:rg (n / 4*4) i=rg (n / 4*4) (min (bG L) (n / 4*4+4)):=by
    by_cases h:n / 4*4<=min (bG L) (n / 4*4+4)
    ·congr 1;omega
    ·unfold rg;rw[List.drop_eq_nil_of_le (by simp;omega),List.drop_eq_nil_of_le (by simp;omega)]
   rw[he]at hw2;by_cases h1:i<bG L
   ·have h2:¬ i<n / 4*4+4:=fun h=>hlt ⟨h1,h⟩;simp(disch:=first|omega|exact ti rfl|simp only[np,nq];first|done|omega)only[go_sem,rB,rI,rK,rL,rN,rS,r6,h1,h2];exact hq w H2 hw2
   ·simp only[go_sem,h1];exact hq w H2 hw2
theorem zo7(x:Nat)(h:x<256):qt6 .i64 (.int .u8 (.ofNat x))=.val (iN x):=by show R0.val (.int .i64 (sZ .i64 (.ofNat x)))=_;rw[qf5 _ (by omega)]
theorem zpg(n:Nat)(h:n<256):sZ .u8 (.ofNat n)=.ofNat n:=by show(bif Nat.blt n 256 then _ else _)=_;rw[blt_eq,decide_eq_true h];rfl
theorem zzx(a b:Nat)(h:0<b)(h2:a<256):aD (aO .quo).f (.int .u8 (.ofNat a)) (.int .u8 (.ofNat b))=.val (.int .u8 (.ofNat (a / b))):=by show(bif pY (.ofNat b) 0 then R0.bad else .val (.int .u8 (sZ .u8 (Int.tdiv (.ofNat a) (.ofNat b)))))=_;rw[zN,decide_eq_false (by simp only[Int.ofNat_eq_natCast];omega)];show R0.val (.int .u8 (sZ .u8 (.ofNat (a / b))))=_;rw[zpg _ (Nat.lt_of_le_of_lt (Nat.div_le_self _ _) h2)]
theorem zze(n j:Nat)(k:IntKind)(h:j<=8):qvh (qh0 .shr).f (.int .u8 (.ofNat n)) (.int k (.ofNat j))=.val (.int .u8 (.ofNat (n / 2 ^ j))):=by
 show(bif oL (.ofNat j) 0 then R0.bad else .val (.int .u8 ((Int.ofNat n).fdiv (2 ^ (min j 8)))))=_;rw[yT,Nat.min_eq_left h];have h0:decide ((Int.ofNat j)<0)=false:=by simp
 show R0.val (.int .u8 ((Int.ofNat n).fdiv (2 ^ j)))=_;congr 2;have h2:((2:Int) ^ j)=Int.ofNat (2 ^ j):=by simp
 show Int.fdiv (n:Int) ((2 ^ j:Nat):Int)=((n / 2 ^ j:Nat):Int);rw[Int.fdiv_eq_ediv_of_nonneg _ (Int.natCast_nonneg _)];rfl
attribute [go_sem] zo7 zzx zze
theorem q5x{v:AV}{L:List (List Nat)}(h:gN H v L)(n i:Nat):dZ L n i<256:=by
 unfold dZ;rw[List.getD_eq_getElem?_getD,List.getD_eq_getElem?_getD];cases h1:L[n]? with
 |none=>simp
 |some l=>
  simp only[Option.getD_some];cases h2:l[i]? with
  |none=>simp
  |some x=>exact h.lt l (List.mem_of_getElem? h1) x (List.mem_of_getElem? h2)
structure At(m n:Nat)(neg:Bool):Prop where
 lt:n<m
 le:m<=12
 up:neg=true->0<lvl n
theorem aQq(q:Nat):lvl (q*4)=0:=by unfold lvl;rw[Nat.mul_mod_left];rfl
theorem qt9(h:At m n neg):0<(cmpL m n neg).length:=by
 unfold cmpL;rw[List.length_map];refine List.length_pos_of_mem (a:=n / 4*4) ?_;rw[List.mem_filter,qfu];have:=h.lt;refine⟨by omega,?_⟩;unfold qkd;rw[aQq];cases neg with
 |true=>simp[h.up rfl]
 |false=>simp;omega
theorem Rs.at1{α:Type}{f:α->List AV}{g:α->AV}(hf:∀ x,f x=[g x]){v:AV}{l:List α}(h:Rs 1 f H v l)(hi:i<l.length):∃b o,aJ 1 v (iN i)=.val (.ptr b o)/\b<H.nx/\dI (H.get b) o=.val (g l[i]):=by obtain⟨b,o,h1,h2,_,h3,h4⟩:=h.at' i hi;refine⟨b,o,h1,h2,?_⟩;simp_all
theorem qnj(hC:bA C)(hk:4<=k){v:AV}{L:List (List Nat)}{n c:Nat}(hv:gN H v L)(hA:At (bG L) n neg)(hc:c<256):Ok (C k (.f 77) [.agg [v],iN n,.int .u8 (.ofNat c),.bool neg] H) fun r H'=>
   r=ruV 2 ((cmpL (bG L) n neg).getD (c%(cmpL (bG L) n neg).length) sE) sE .aA/\Fm No H H':=by
 obtain⟨j,rfl⟩:=aX hk;rw[(hC j).zBf];unfold zBf zu0;have hp:=qt9 hA;have hn:=hA.lt;have hle:=hA.le;simp(disch:=first|omega|exact ti rfl|simp only[np,nq];first|done|omega)only[go_sem,rB,rI,rK,rL,rN,rS,r6];unfold zcp;rw[dH];have f1:Fm No H (aS (aS H (aB 0 [v])) (aB 0 [.int .u8 (.ofNat 0),.str 0 0,.str 0 0,.aA])):=by exact qD
 have f1':Fm No (aS H (aB 0 [v])) (aS (aS H (aB 0 [v])) (aB 0 [.int .u8 (.ofNat 0),.str 0 0,.str 0 0,.aA])):=by exact lT
 have hcb:wO (aS H (aB 0 [v])) H.nx v:=⟨by first|omega|simp only[np,nq];omega,by simp(disch:=first|omega|exact ti rfl|simp only[np,nq];first|done|omega)only[go_sem,rB,rI,rK,rL,rN,rS,r6]⟩;refine qfb hC (by omega) (by omega) (hv.fm f1) (hcb.fm f1') (fun w H2 hw=>?_) cK (n / 4*4) .aA _ (Nat.le_refl _) (by omega) (by rw[dM];omega) ?_
 ·unfold zco;have hl:=hw.dA;have f2:=hw.fm;have hmod:c%(cmpL (bG L) n neg).length<(cmpL (bG L) n neg).length:=Nat.mod_lt _ hp;obtain⟨b,o,e1,e2,e3⟩:=(hw.rs zrt).at1 (g:=SS.v) (fun _=>rfl) hmod;have k2:H2.get (H.nx+1)=aB 0 [.int .u8 (.ofNat 0),.str 0 0,.str 0 0,.aA]:=(f2.keep (by first|omega|simp only[np,nq];omega)).trans (by simp(disch:=first|omega|exact ti rfl|simp only[np,nq];first|done|omega)only[go_sem,seval]);unfold SS.v at e3;have ex:=f2.nx;simp(disch:=omega)only[go_sem,seval,hl,e1,e3,k2];refine Ok.ret ⟨?_,(f1.trans f2).aG _ _ (by omega)⟩;rw[List.getD_eq_getElem?_getD,List.getElem?_eq_getElem hmod];rfl
 ·rw[qs1];exact Ac.nil _ _ (Fm.refl _ _)
structure jS where
 sp:SS
 rl:SS
 deriving DecidableEq
def tC(t:jS):List AV:=[t.sp.v,t.rl.v]
theorem qu7(t:jS):(tC t).length=2:=rfl
def nS(m:Nat):Nat:=min 3 ((m+3) / 4)
def rY(c i:Nat):List jS:=⟨sU,sE⟩::((rg 0 i).filter fun i=>decide (c / 2 ^ i%2=1)).map fun i=>⟨bV i,sE⟩
def pP(m n:Nat):List jS:=((rg 0 m).filter fun k=>decide (lvl k<=lvl n)).map fun k=>⟨bV (k / 4),eU k⟩
def jY(L:List (List Nat))(n:Nat):List jS:=
 rY (dZ L n 0) (nS (bG L))++if dZ L n 1%2=1 then[(pP (bG L) n).getD (dZ L n 1 / 2%(pP (bG L) n).length) ⟨sE,sE⟩]else[]
theorem Ac.one{α:Type}{f:α->List AV}(x:α)(hx:(f x).length=z)(h:Fm No H0 H):Ac z f H0 (aS H (aB 0 (f x))) (.sl H.nx 0 1 1 true) [x]:=
 ⟨⟨by simp[hx],.inr ⟨_,_,_,_,_,rfl,lI _ _,Nat.zero_le _,by simp,.inl rfl,by rw[np];omega⟩⟩,h.push _,fun b hb=>by obtain⟨_,_,_,_,h'⟩:=hb;cases h';exact h.nx⟩
theorem qg9(hC:bA C){j:Nat}(hj:2<=j){v:AV}{L:List (List Nat)}{n cb:Nat}(hn:n<100000){H1:Hp}{Q:pL}{q:pD}(hv:gN H1 v L)(hb:wO H1 cb v)(hq:∀ w H,Ac 2 tC H1 H w (pP (bG L) n)->Ok (q w H) Q):∀(k i:Nat) (w:AV) (H:Hp),i<=bG L->bG L-i<k->Ac 2 tC H1 H w (pP i n) -> Ok (qr1 (C j) q (iN n) (.ptr cb 0) k w (iN i) H) Q
 |0,i,_,_,_,h,_=>by omega
 |k+1,i,w,H,hi,hk,hw=>by
  show Ok (qzz (C j) _ _ _ (qr1 (C j) _ _ _ k) _ _ H) Q;unfold qzz;have hm:bG L<=12:=Nat.min_le_right _ _;have hbH:=hb.fm hw.fm;have e0:=hbH.is;simp only[go_sem,e0];refine Ok.ve (qjj hC (k:=j) (by omega) (hv.fm hw.fm)) ?_;rintro _ H2 ⟨rfl,f2⟩;have hw2:=hw.no f2;by_cases hlt:i<bG L
  ·simp only[go_sem,hlt];refine Ok.ve (qd4 hC (k:=j) (by omega) i (by omega) H2) ?_;rintro _ H3 ⟨rfl,f3⟩;refine Ok.ve (qd4 hC (k:=j) (by omega) n (by omega) H3) ?_;rintro _ H4 ⟨rfl,f4⟩;have hw4:=(hw2.no f3).no f4;have hr:rg 0 (i+1)=rg 0 i++[i]:=qja (Nat.zero_le _);by_cases hf:lvl i<=lvl n
   ·simp(disch:=first|omega|exact ti rfl|simp only[np,nq];first|done|omega)only[go_sem,rB,rI,rK,rL,rN,rS,r6,hf];refine Ok.ve (qkq hC (k:=j) (by omega) (i / 4) (by omega) H4) ?_;rintro _ H5 ⟨rfl,f5⟩;refine Ok.ve (qvr hC (k:=j) (by omega) i (by omega) H5) ?_;rintro _ H6 ⟨rfl,f6⟩;have hw6:=(hw4.no f5).no f6;unfold SS.v;simp(disch:=omega)only[go_sem,seval];have hl:(pP i n).length<=12:=by
     unfold pP;rw[List.length_map];refine Nat.le_trans (List.length_filter_le _ _) ?_;rw[qj5];omega
    refine Ok.ve ((hw6.no ((Fm.refl No H6).push (aB 0 (tC ⟨bV (i / 4),eU i⟩)))).add ⟨bV (i / 4),eU i⟩ 32 rfl (by omega) (by omega)) ?_;intro w7 H7 hw7;unfold qr4;simp(disch:=first|omega|exact ti rfl|simp only[np,nq];first|done|omega)only[go_sem,rB,rI,rK,rL,rN,rS,r6];refine qg9 hC hj hn hv hb hq k (i+1) w7 H7 (by omega) (by omega) ?_;unfold pP;rw[hr,List.filter_append,List.filter_cons,decide_eq_true hf];simpa [pP] using hw7
   ·simp only[go_sem,hf];unfold qr4;simp(disch:=first|omega|exact ti rfl|simp only[np,nq];first|done|omega)only[go_sem,rB,rI,rK,rL,rN,rS,r6];refine qg9 hC hj hn hv hb hq k (i+1) w H4 (by omega) (by omega) ?_;unfold pP;rw[hr,List.filter_append,List.filter_cons,decide_eq_false hf];simpa [pP] using hw4
  ·have he:i=bG L:=by omega
   simp only[go_sem,hlt];simp_all
theorem q0b(c i:Nat):(rY c i).length<=i+1:=by unfold rY;rw[List.length_cons,List.length_map];have:=List.length_filter_le (fun i=>decide (c / 2 ^ i%2=1)) (rg 0 i);rw[qj5]at this;omega
theorem qsr(h:n<m):0<(pP m n).length:=by unfold pP;rw[List.length_map];refine List.length_pos_of_mem (a:=n) ?_;rw[List.mem_filter,qfu];simp_all
theorem Ac.trans{α:Type}{f:α->List AV}{v:AV}{l:List α}(a:Fm No H0 H1)(h:Ac z f H1 H v l):Ac z f H0 H v l:=⟨h.gl,a.trans h.fm,fun b hb=>Nat.le_trans a.nx (h.nw b hb)⟩
theorem Rs.qJ{α:Type}{f:α->List AV}{v:AV}{l:List α}(h:Rs z f H v l)(hi:i<l.length):∃b o,aJ z v (iN i)=.val (.ptr b o)/\b<H.nx/\fU (H.get b) o z=some (f l[i]):=by obtain⟨b,o,h1,h2,_,h3,_⟩:=h.at' i hi;exact⟨b,o,h1,h2,h3⟩
theorem zee(hC:bA C)(hj:2<=j){v:AV}{L:List (List Nat)}{n cb:Nat}(hn:n<bG L)(hv:gN H v L)(hb:wO H cb v){w:AV}(hw:Ac 2 tC H0 H w (rY (dZ L n 0) (nS (bG L)))):Ok (qr3 (C j) (iN n) (.ptr cb 0) w H) fun r H'=>Ac 2 tC H0 H' r (jY L n):=by
 have hm:bG L<=12:=Nat.min_le_right _ _;have hnL:n<L.length:=Nat.lt_of_lt_of_le hn (Nat.min_le_left _ _);unfold qr3;have e0:=hb.is;simp only[go_sem,e0];refine Ok.ve (q1s hC (k:=j) (by omega) hv hnL) ?_;rintro _ H1 ⟨rfl,f1⟩;have hw1:=hw.no f1;unfold jY;have hc:=q5x hv n 1;by_cases h1:dZ L n 1%2=1
 ·rw[if_pos h1];simp(disch:=first|omega|exact ti rfl|simp only[np,nq];first|done|omega)only[go_sem,rB,rI,rK,rL,rN,rS,r6,h1];unfold zde;rw[dH];refine qg9 hC hj (by omega) (hv.fm f1) (hb.fm f1) (fun u H2 hu=>?_) cK 0 .aA H1 (Nat.zero_le _) (by rw[dM];omega) (Ac.nil _ _ (Fm.refl _ _));unfold qzx;have f2:=hu.fm;have e2:=((hb.fm f1).fm f2).is;simp only[go_sem,e2];refine Ok.ve (q1s hC (k:=j) (by omega) ((hv.fm f1).fm f2) hnL) ?_;rintro _ H3 ⟨rfl,f3⟩;have hu3:=hu.no f3;have hl:=hu3.dA;have hmod:dZ L n 1 / 2%(pP (bG L) n).length<(pP (bG L) n).length:=Nat.mod_lt _ (qsr hn);obtain⟨b,o,e1,_,e3⟩:=(hu3.rs qu7).qJ hmod;have hx:(pP (bG L) n).getD (dZ L n 1 / 2%(pP (bG L) n).length) ⟨sE,sE⟩=(pP (bG L) n)[dZ L n 1 / 2%(pP (bG L) n).length]:=by
   simp_all
  rw[hx];have hlen:=q0b (dZ L n 0) (nS (bG L));have w9:nS (bG L)<=3:=Nat.min_le_left _ _;unfold tC at e3;simp(disch:=first|omega|exact ti rfl|simp only[np,nq];first|done|omega)only[go_sem,rB,rI,rK,rL,rN,rS,r6,hl,e1,e3];refine Ok.ve ((((hw1.no f2).no f3).no ((Fm.refl No H3).push (aB 0 (tC (pP (bG L) n)[dZ L n 1 / 2%(pP (bG L) n).length])))).add _ 32 rfl (by omega) (by omega)) ?_;intro w4 H4 hw4;exact Ok.ret hw4
 ·rw[if_neg h1,List.append_nil];simp(disch:=first|omega|exact ti rfl|simp only[np,nq];first|done|omega)only[go_sem,rB,rI,rK,rL,rN,rS,r6,h1];exact Ok.ret hw1
theorem qha(hC:bA C){j:Nat}(hj:2<=j){v:AV}{L:List (List Nat)}{n cb:Nat}(hn:n<bG L){H0:Hp}{Q:pL}{q:pD}(hv:gN H0 v L)(hb:wO H0 cb v)(hq:∀ w H,Ac 2 tC H0 H w (rY (dZ L n 0) (nS (bG L)))->Ok (q w H) Q):∀(k i:Nat) (w:AV) (H:Hp),i<=nS (bG L)->3-i<k->Ac 2 tC H0 H w (rY (dZ L n 0) i) -> Ok (qr0 (C j) q (iN n) (.ptr cb 0) k w (iN i) H) Q
 |0,i,_,_,_,h,_=>by omega
 |k+1,i,w,H,hi,hk,hw=>by
  show Ok (qzy (C j) _ _ _ (qr0 (C j) _ _ _ k) _ _ H) Q;unfold qzy;have hm:bG L<=12:=Nat.min_le_right _ _;have hnL:n<L.length:=Nat.lt_of_lt_of_le hn (Nat.min_le_left _ _);have w9:nS (bG L)<=3:=Nat.min_le_left _ _;have e0:=(hb.fm hw.fm).is;simp(disch:=omega)only[go_sem,e0];refine Ok.ve (qjj hC (k:=j) (by omega) (hv.fm hw.fm)) ?_;rintro _ H2 ⟨rfl,f2⟩;have hw2:=hw.no f2;by_cases hlt:i<nS (bG L)
  ·have h1:4*i<bG L:=by unfold nS at hlt;omega
   have h2:i<3:=by omega
   simp only[go_sem,h1,h2];unfold zdc;have e2:=(hb.fm hw2.fm).is;simp only[go_sem,e2];refine Ok.ve (q1s hC (k:=j) (by omega) (hv.fm hw2.fm) hnL) ?_;rintro _ H3 ⟨rfl,f3⟩;have hw3:=hw2.no f3;have hr:rg 0 (i+1)=rg 0 i++[i]:=qja (Nat.zero_le _);by_cases hf:dZ L n 0 / 2 ^ i%2=1
   ·simp(disch:=omega)only[go_sem,hf];refine Ok.ve (qkq hC (k:=j) (by omega) i (by omega) H3) ?_;rintro _ H4 ⟨rfl,f4⟩;have hw4:=hw3.no f4;unfold SS.v;simp(disch:=omega)only[go_sem,seval];have hl:=q0b (dZ L n 0) i;refine Ok.ve ((hw4.no ((Fm.refl No H4).push (aB 0 (tC ⟨bV i,sE⟩)))).add ⟨bV i,sE⟩ 32 rfl (by omega) (by omega)) ?_;intro w5 H5 hw5;unfold qr2;simp(disch:=omega)only[go_sem];refine qha hC hj hn hv hb hq k (i+1) w5 H5 (by omega) (by omega) ?_;have:rY (dZ L n 0) (i+1)=rY (dZ L n 0) i++[⟨bV i,sE⟩]:=by
     unfold rY;simp_all
    simp_all
   ·simp(disch:=first|omega|exact ti rfl|simp only[np,nq];first|done|omega)only[go_sem,rB,rI,rK,rL,rN,rS,r6,hf];unfold qr2;simp(disch:=omega)only[go_sem];refine qha hC hj hn hv hb hq k (i+1) w H3 (by omega) (by omega) ?_;have:rY (dZ L n 0) (i+1)=rY (dZ L n 0) i:=by
     unfold rY;simp_all
    simp_all
  ·have he:i=nS (bG L):=by omega
   rw[he]at hw2;by_cases h1:4*i<bG L
   ·have h2:¬ i<3:=by unfold nS at hlt;omega
    omega
   ·simp only[go_sem,h1];simp_all
theorem q3l(hC:bA C)(hk:4<=k){v:AV}{L:List (List Nat)}(hv:gN H v L)(hn:n<bG L):Ok (C k (.f 51) [.agg [v],iN n] H) fun r H'=>Ac 2 tC H H' r (jY L n):=by
 obtain⟨j,rfl⟩:=aX hk;rw[(hC j).zAr];unfold zAr zu9;simp only[go_sem];unfold zdd;rw[dH];have hcb:wO (aS H (aB 0 [v])) H.nx v:=⟨by first|omega|simp only[np,nq];omega,by simp(disch:=omega)only[go_sem,seval]⟩;have fa:Fm No H (aS H (aB 0 [v])):=by exact lT
 have h1:=Ac.one (z:=2) (f:=tC) (H0:=aS H (aB 0 [v])) ⟨sU,sE⟩ rfl (Fm.refl _ _);refine qha hC (by omega) hn (hv.fm fa) hcb (fun w H2 hw=>?_) cK 0 _ _ (Nat.zero_le _) (by rw[dM];omega) h1;refine(zee hC (by omega) hn ((hv.fm fa).fm hw.fm) (hcb.fm hw.fm) (hw.trans (H0:=H) fa)).mono fun r H' h=>h
theorem z1f(n a m b:Nat):gH (mP .eql).f (.str n a) (.str m b)=.val (.bool (decide (n=m/\a=b))):=by show R0.val (.bool (Nat.beq n m&&Nat.beq a b))=_;rw[beq_eq,beq_eq,Bool.decide_and]
theorem zf8(n a m b:Nat):gH (mP .neq).f (.str n a) (.str m b)=.val (.bool (!decide (n=m/\a=b))):=by show R0.val (.bool (!(Nat.beq n m&&Nat.beq a b)))=_;rw[beq_eq,beq_eq,Bool.decide_and]
theorem zxj(n a:Nat):nV 64 (.str n a) (.str n a)=true:=by show(Nat.beq n n&&Nat.beq a a)=true;simp
attribute [go_sem] z1f zf8 zxj
theorem tO(s t:SS):(s=t)↔(s.n=t.n/\s.a=t.a):=by cases s;cases t;simp
structure ArS where
 rl:SS
 to:SS
 deriving DecidableEq
def arC(x:ArS):List AV:=[.int .u8 (.ofNat 3),x.rl.v,x.to.v,.aA]
theorem zye(t:ArS):(arC t).length=4:=rfl
def arP(n:Nat)(neg:Bool)(t:jS)(j:Nat):Bool:=decide (t.rl=sE)&&decide (t.sp=bV (j / 4))&&qkd n j neg
def tY(n:Nat)(neg:Bool)(k:Nat)(t:jS)(m:Nat):List ArS:=((rg 0 m).filter (arP n neg t)).map fun j=>⟨eU k,eU j⟩
def arK(L:List (List Nat))(n:Nat)(neg:Bool)(k:Nat):List ArS:=(jY L k).flatMap fun t=>tY n neg k t (bG L)
def mJ(L:List (List Nat))(n:Nat)(neg:Bool)(i:Nat):List ArS:=(rg (n / 4*4) i).flatMap (arK L n neg)
theorem q10(n:Nat)(neg:Bool)(k:Nat)(t:jS)(m:Nat):(tY n neg k t m).length<=m:=by unfold tY;rw[List.length_map];refine Nat.le_trans (List.length_filter_le _ _) ?_;rw[qj5];omega
theorem zpl(n:Nat)(neg:Bool)(k:Nat)(t:jS)(i:Nat):tY n neg k t (i+1)=tY n neg k t i++if arP n neg t i then[⟨eU k,eU i⟩]else[]:=by unfold tY;rw[qja (Nat.zero_le _),List.filter_append,List.filter_cons];cases arP n neg t i<;>simp
theorem qcw{α β:Type}(g:α->List β)(c:Nat)(h:∀ x,(g x).length<=c):∀ l:List α,(l.flatMap g).length<=c*l.length
 | []=>by simp
 |a::l=>by rw[List.flatMap_cons,List.length_append,List.length_cons,Nat.mul_add,Nat.mul_one];have:=qcw g c h l;have:=h a;omega
theorem qds(hC:bA C){j:Nat}(hj:3<=j){v:AV}{L:List (List Nat)}{n cb kk:Nat}{neg:Bool}(hn:n<100000)(hkk:kk<100000){S:Nat->Prop}{H0:Hp}{Q:pL}{q:pD}(hv:∀ H',Fm S H0 H'->gN H' v L)(hb:∀ H',Fm S H0 H'->wO H' cb v){ts:List jS}{tv:AV}(ht:∀ H',Fm S H0 H'->Rs 2 tC H' tv ts){x:Nat}(hx:x<ts.length){A:List ArS}(hA:A.length<=1000000)(hq:∀ w H,mR 4 arC S H0 H w (A++tY n neg kk ts[x] (bG L))->Ok (q w H) Q):∀(k i:Nat) (w:AV) (H:Hp),i<=bG L->bG L-i<k->mR 4 arC S H0 H w (A++tY n neg kk ts[x] i) -> Ok (qrh (C j) q (iN n) (.bool neg) (.ptr cb 0) (iN kk) tv (iN x) k w (iN i) H) Q
 |0,i,_,_,_,h,_=>by omega
 |k+1,i,w,H,hi,hk,hw=>by
  show Ok (qzg (C j) _ _ _ _ _ _ _ (qrh (C j) _ _ _ _ _ _ _ k) _ _ H) Q;unfold qzg;have hm:bG L<=12:=Nat.min_le_right _ _;have e0:=(hb _ hw.fm).is;simp only[go_sem,e0];refine Ok.ve (qjj hC (k:=j) (by omega) (hv _ hw.fm)) ?_;rintro _ H2 ⟨rfl,f2⟩;have hw2:=hw.no f2;by_cases hlt:i<bG L
  ·simp only[go_sem,hlt];unfold zck;have ht2:=ht _ hw2.fm;obtain⟨b,o,e1,e2,_,e3,e4⟩:=ht2.at' x hx;have r0:dI (H2.get b) o=.val (.str ts[x].sp.n ts[x].sp.a):=e4 0 (by rw[qu7];omega);have r1:dI (H2.get b) (o+1)=.val (.str ts[x].rl.n ts[x].rl.a):=e4 1 (by rw[qu7];omega);have hsucc:=zpl n neg kk ts[x] i;have hlen:=q10 n neg kk ts[x] i;by_cases h1:ts[x].rl.n=0/\ts[x].rl.a=0
   ·have h1':ts[x].rl=sE:=(tO _ _).2 h1;have h1t:=eq_true h1;simp(disch:=first|omega|exact ti rfl|simp only[np,nq];first|done|omega)only[go_sem,rB,rI,rK,rL,rN,rS,r6,e1,r0,r1,h1t];refine Ok.mY (qkq hC (k:=j) (by omega) (i / 4) (by omega) H2) ?_;rintro _ H3 ⟨rfl,f3⟩;have r0':dI (H3.get b) o=.val (.str ts[x].sp.n ts[x].sp.a):=by rw[f3.keep e2];exact r0
    have r1':dI (H3.get b) (o+1)=.val (.str ts[x].rl.n ts[x].rl.a):=by rw[f3.keep e2];exact r1
    have hw3:=hw2.no f3;unfold SS.v;by_cases h2:ts[x].sp.n=(bV (i / 4)).n/\ts[x].sp.a=(bV (i / 4)).a
    ·have h2':ts[x].sp=bV (i / 4):=(tO _ _).2 h2;have h2t:=eq_true h2;simp only[go_sem,r0',r1',h2t];refine Ok.mY (zg6 hC (k:=j) (by omega) n i (by omega) (by omega) neg H3) ?_;rintro _ H4 ⟨rfl,f4⟩;have bAv:dI (H4.get b) o=.val (.str ts[x].sp.n ts[x].sp.a):=by rw[f4.keep (Nat.lt_of_lt_of_le e2 f3.nx)];exact r0'
     have aW1:dI (H4.get b) (o+1)=.val (.str ts[x].rl.n ts[x].rl.a):=by rw[f4.keep (Nat.lt_of_lt_of_le e2 f3.nx)];exact r1'
     have hw4:=hw3.no f4;have hap:arP n neg ts[x] i=qkd n i neg:=by unfold arP;rw[decide_eq_true h1',decide_eq_true h2'];simp
     rw[hap]at hsucc;cases hf:qkd n i neg
     ·rw[hf]at hsucc;unfold qiu;simp(disch:=first|omega|exact ti rfl|simp only[np,nq];first|done|omega)only[go_sem,rB,rI,rK,rL,rN,rS,r6];refine qds hC hj hn hkk hv hb ht hx hA hq k (i+1) w H4 (by omega) (by omega) ?_;simp_all
     ·rw[hf]at hsucc;simp only[go_sem,bAv,aW1];refine Ok.ve (qvr hC (k:=j) (by omega) kk (by omega) H4) ?_;rintro _ H5 ⟨rfl,f5⟩;refine Ok.ve (qvr hC (k:=j) (by omega) i (by omega) H5) ?_;rintro _ H6 ⟨rfl,f6⟩;have hw6:=(hw4.no f5).no f6;unfold SS.v;simp(disch:=omega)only[go_sem,seval];have hll:(A++tY n neg kk ts[x] i).length<=1000000+i:=by rw[List.length_append];omega
      refine Ok.ve ((hw6.no ((Fm.refl No H6).push (aB 0 (arC ⟨eU kk,eU i⟩)))).add ⟨eU kk,eU i⟩ 64 rfl (by omega) (by omega)) ?_;intro w7 H7 hw7;unfold qiu;simp(disch:=first|omega|exact ti rfl|simp only[np,nq];first|done|omega)only[go_sem,rB,rI,rK,rL,rN,rS,r6];refine qds hC hj hn hkk hv hb ht hx hA hq k (i+1) w7 H7 (by omega) (by omega) ?_;simp_all
    ·have h2':¬ ts[x].sp=bV (i / 4):=fun h=>h2 ((tO _ _).1 h);have hap:arP n neg ts[x] i=false:=by unfold arP;rw[decide_eq_false h2'];simp
     rw[hap]at hsucc;simp only[go_sem,r0',r1',h2];unfold qiu;simp(disch:=first|omega|exact ti rfl|simp only[np,nq];first|done|omega)only[go_sem,rB,rI,rK,rL,rN,rS,r6];refine qds hC hj hn hkk hv hb ht hx hA hq k (i+1) w H3 (by omega) (by omega) ?_;simp_all
   ·have h1':¬ ts[x].rl=sE:=fun h=>h1 ((tO _ _).1 h);have hap:arP n neg ts[x] i=false:=by unfold arP;rw[decide_eq_false h1'];simp
    rw[hap]at hsucc;simp only[go_sem,e1,r0,r1,h1];unfold qiu;simp(disch:=first|omega|exact ti rfl|simp only[np,nq];first|done|omega)only[go_sem,rB,rI,rK,rL,rN,rS,r6];refine qds hC hj hn hkk hv hb ht hx hA hq k (i+1) w H2 (by omega) (by omega) ?_;simp_all
  ·have he:i=bG L:=by omega
   simp only[go_sem,hlt];simp_all
theorem q6d(L:List (List Nat))(n:Nat):0<(jY L n).length:=by unfold jY rY;simp
theorem qf9(L:List (List Nat))(n:Nat):(jY L n).length<=5:=by unfold jY;have:=q0b (dZ L n 0) (nS (bG L));have h3:nS (bG L)<=3:=Nat.min_le_left _ _;split<;>simp<;>omega
theorem qno(hC:bA C){j:Nat}(hj:3<=j){v:AV}{L:List (List Nat)}{n cb kk:Nat}{neg:Bool}(hn:n<100000)(hkk:kk<100000){S:Nat->Prop}{H0:Hp}{Q:pL}{q:pD}(hv:∀ H',Fm S H0 H'->gN H' v L)(hb:∀ H',Fm S H0 H'->wO H' cb v){ts:List jS}{tv:AV}(ht:∀ H',Fm S H0 H'->Rs 2 tC H' tv ts)(hts:ts.length<=5){A:List ArS}(hA:A.length<=900000)(hq:∀ w H,mR 4 arC S H0 H w (A++ts.flatMap fun t=>tY n neg kk t (bG L))->Ok (q w H) Q):∀(k i:Nat) (w:AV) (H:Hp),i<=ts.length->ts.length-i<k->mR 4 arC S H0 H w (A++(ts.take i).flatMap fun t=>tY n neg kk t (bG L)) -> Ok (qln (C j) q (iN n) (.bool neg) (.ptr cb 0) (iN kk) tv k w (iN i) H) Q
 |0,i,_,_,_,h,_=>by omega
 |k+1,i,w,H,hi,hk,hw=>by
  show Ok (qzh (C j) _ _ _ _ _ _ (qln (C j) _ _ _ _ _ _ k) _ _ H) Q;unfold qzh;have hm:bG L<=12:=Nat.min_le_right _ _;have hl:=(ht _ hw.fm).len;by_cases hlt:i<ts.length
  ·simp only[go_sem,hl,hlt];unfold zcj zcl;rw[dH];have hlen:(A++(ts.take i).flatMap fun t=>tY n neg kk t (bG L)).length<=1000000:=by
    rw[List.length_append];have h1:=qcw (fun t=>tY n neg kk t (bG L)) 12 (fun t=>Nat.le_trans (q10 n neg kk t _) hm) (ts.take i);have h2:(ts.take i).length<=5:=by rw[List.length_take];omega
    omega
   refine qds hC hj hn hkk hv hb ht hlt hlen (fun w2 H2 hw2=>?_) cK 0 w H (Nat.zero_le _) (by rw[dM];omega) ?_
   ·unfold qze;simp(disch:=omega)only[go_sem];refine qno hC hj hn hkk hv hb ht hts hA hq k (i+1) w2 H2 (by omega) (by omega) ?_;rw[List.take_succ_eq_append_getElem hlt,List.flatMap_append,List.flatMap_singleton,<-List.append_assoc];exact hw2
   ·have:tY n neg kk ts[i] 0=[]:=by unfold tY;rw[qs1];rfl
    simp_all
  ·have he:i=ts.length:=by omega
   simp only[go_sem,hl,hlt];simp_all
theorem zpj(L:List (List Nat))(n:Nat)(neg:Bool)(i:Nat)(h:i<=12):(mJ L n neg i).length<=60*12:=by unfold mJ;have hm:bG L<=12:=Nat.min_le_right _ _;have h1:=qcw (arK L n neg) 60 (fun k=>by unfold arK;have h1:=qcw (fun t=>tY n neg k t (bG L)) 12 (fun t=>Nat.le_trans (q10 n neg k t _) hm) (jY L k);have h2:=qf9 L k;omega) (rg (n / 4*4) i);have h2:=qj5 (n / 4*4) i;omega
theorem qqr(hC:bA C){j:Nat}(hj:4<=j){v:AV}{L:List (List Nat)}{n cb:Nat}{neg:Bool}(hn:n<100000){H1:Hp}{Q:pL}{q:pD}(hv:gN H1 v L)(hb:wO H1 cb v)(hq:∀ w H,Ac 4 arC H1 H w (mJ L n neg (min (bG L) (n / 4*4+4)))->Ok (q w H) Q):∀(k i:Nat) (w:AV) (H:Hp),n / 4*4<=i->i<=max (min (bG L) (n / 4*4+4)) (n / 4*4)->n / 4*4+4-i<k->Ac 4 arC H1 H w (mJ L n neg i) -> Ok (qlo (C j) q (iN n) (.bool neg) (.ptr cb 0) k w (iN i) H) Q
 |0,i,_,_,_,_,h,_=>by omega
 |k+1,i,w,H,hi,hi2,hk,hw=>by
  show Ok (qzi (C j) _ _ _ _ (qlo (C j) _ _ _ _ k) _ _ H) Q;unfold qzi;have hm:bG L<=12:=Nat.min_le_right _ _;have e0:=(hb.fm hw.fm).is;simp only[go_sem,e0];refine Ok.ve (qjj hC (k:=j) (by omega) (hv.fm hw.fm)) ?_;rintro _ H2 ⟨rfl,f2⟩;have hw2:=hw.no f2;by_cases hlt:i<bG L/\i<n / 4*4+4
  ·obtain⟨h1,h2⟩:=hlt;simp(disch:=omega)only[go_sem,h1,h2];unfold zci;have e2:=(hb.fm hw2.fm).is;simp only[go_sem,seval,e2];refine Ok.ve (q3l hC (k:=j) (by omega) (hv.fm hw2.fm) h1) ?_;intro tv H3 ht;have hw3:=hw2.no ht.fm;unfold zcm;rw[dH];have yN:=zpj L n neg i (by omega);have dj:∀ b,In tv b->¬ In w b:=fun b h1 h2=>by
    have:=ht.nw b h1;have:=hw2.gl.lt h2;omega
   refine qno (A:=mJ L n neg i) (S:=In w) hC (by omega) hn (by omega) (fun H' f=>hv.fm (hw3.old f)) (fun H' f=>hb.fm (hw3.old f)) (fun H' f=>(ht.rs qu7).iQ f dj) (qf9 L i) (by omega) (fun w4 H4 hw4=>?_) cK 0 w H3 (Nat.zero_le _) (by have:=qf9 L i;rw[dM];omega) ?_
   ·unfold qzf;simp(disch:=omega)only[go_sem];refine qqr hC hj hn hv hb hq k (i+1) w4 H4 (by omega) (by omega) (by omega) ?_;have:mJ L n neg (i+1)=mJ L n neg i++arK L n neg i:=by
     unfold mJ;rw[qja hi,List.flatMap_append,List.flatMap_singleton]
    rw[this];exact hw3.fin hw4
   ·rw[List.take_zero,List.flatMap_nil,List.append_nil];exact hw3.start
  ·have he:rg (n / 4*4) i=rg (n / 4*4) (min (bG L) (n / 4*4+4)):=by
    by_cases h:n / 4*4<=min (bG L) (n / 4*4+4)
    ·congr 1;omega
    ·unfold rg;rw[List.drop_eq_nil_of_le (by simp;omega),List.drop_eq_nil_of_le (by simp;omega)]
   unfold mJ at hw2;rw[he]at hw2;by_cases h1:i<bG L
   ·have h2:¬ i<n / 4*4+4:=fun h=>hlt ⟨h1,h⟩;simp(disch:=omega)only[go_sem,h1,h2];exact hq w H2 hw2
   ·simp only[go_sem,h1];exact hq w H2 hw2
def kU(L:List (List Nat))(n:Nat)(neg:Bool):List ArS:=mJ L n neg (min (bG L) (n / 4*4+4))
def aNh(neg:Bool):AV:=if neg then ruV 2 (eU 0) sE .aA else ruV 1 sE sE .aA
def aDc(L:List (List Nat))(n c:Nat)(neg:Bool):AV:=
 if(kU L n neg).length=0 then aNh neg else ruV 3 ((kU L n neg).getD (c%(kU L n neg).length) ⟨sE,sE⟩).rl ((kU L n neg).getD (c%(kU L n neg).length) ⟨sE,sE⟩).to .aA
theorem zpi(hC:bA C)(hk:6<=k){v:AV}{L:List (List Nat)}{n c:Nat}(hv:gN H v L)(hn:n<100000)(hc:c<256):Ok (C k (.f 78) [.agg [v],iN n,.int .u8 (.ofNat c),.bool neg] H) fun r H'=>r=aDc L n c neg/\Fm No H H':=by
 obtain⟨j,rfl⟩:=aX hk;rw[(hC j).zBg];unfold zBg zuy;simp(disch:=omega)only[go_sem];unfold zcn;rw[dH];have f1:Fm No H (aS (aS H (aB 0 [v])) (aB 0 [.int .u8 (.ofNat 0),.str 0 0,.str 0 0,.aA])):=by exact qD
 have f1':Fm No (aS H (aB 0 [v])) (aS (aS H (aB 0 [v])) (aB 0 [.int .u8 (.ofNat 0),.str 0 0,.str 0 0,.aA])):=by exact lT
 have hcb:wO (aS H (aB 0 [v])) H.nx v:=⟨by simp only[np,nq];omega,by simp(disch:=omega)only[go_sem]⟩;refine qqr hC (by omega) hn (hv.fm f1) (hcb.fm f1') (fun w H2 hw=>?_) cK (n / 4*4) .aA _ (Nat.le_refl _) (by omega) (by rw[dM];omega) ?_
 ·unfold qri;have hl:=hw.dA;have f2:=hw.fm;have ex:=f2.nx;simp only[np]at ex;have k2:H2.get (H.nx+1)=aB 0 [.int .u8 (.ofNat 0),.str 0 0,.str 0 0,.aA]:=(f2.keep (by simp only[np,nq];omega)).trans (by simp(disch:=first|omega|exact ti rfl|simp only[np,nq];first|done|omega)only[go_sem]);unfold aDc kU;by_cases h0:(mJ L n neg (min (bG L) (n / 4*4+4))).length=0
  ·rw[if_pos h0];simp only[go_sem,hl,h0];refine Ok.ve (qfw hC (k:=j) (by omega) neg H2) ?_;rintro _ H3 ⟨rfl,f3⟩;have k3:H3.get (H.nx+1)=aB 0 [.int .u8 (.ofNat 0),.str 0 0,.str 0 0,.aA]:=(f3.keep (by omega)).trans k2;cases neg<;>(unfold ruV;simp only[go_sem,seval,k3];exact Ok.ret ⟨rfl,((f1.trans f2).trans f3).aG _ _ (by omega)⟩)
  ·rw[if_neg h0];simp only[go_sem,hl,h0];unfold zq3;have hmod:c%(mJ L n neg (min (bG L) (n / 4*4+4))).length<(mJ L n neg (min (bG L) (n / 4*4+4))).length:=Nat.mod_lt _ (by omega);obtain⟨b,o,e1,e2,e3⟩:=(hw.rs zye).qJ hmod;unfold arC at e3;simp(disch:=omega)only[go_sem,seval,hl,e1,e3,k2];refine Ok.ret ⟨?_,(f1.trans f2).aG _ _ (by omega)⟩;rw[List.getD_eq_getElem?_getD,List.getElem?_eq_getElem hmod];rfl
 ·unfold mJ;rw[qs1];exact Ac.nil _ _ (Fm.refl _ _)
inductive Ru where
 |leaf (kind:Nat) (rl to:SS)
 |node (kind:Nat) (a b:Ru)
 deriving DecidableEq
def Ru.kind:Ru->Nat
 | .leaf k _ _=>k
 | .node k _ _=>k
def lfC(k:Nat)(rl to:SS):List AV:=[.int .u8 (.ofNat k),rl.v,to.v,.aA]
def jR(P:Nat->Prop)(H:Hp):Ru->List AV->Prop
 | .leaf k rl to,cs=>cs=lfC k rl to
 | .node k a b,cs=>∃ bl ca cb,cs=[.int .u8 (.ofNat k),sE.v,sE.v,.sl bl 0 2 2 true]/\bl<H.nx/\P bl/\H.get bl=aB 0 (ca++cb)/\jR P H a ca/\jR P H b cb
theorem jR.iQ{P S:Nat->Prop}{H H':Hp}(f:Fm S H H')(hs:∀ b,P b->¬ S b):∀{r:Ru} {cs:List AV},jR P H r cs->jR P H' r cs
 | .leaf _ _ _,_,h=>h
 | .node _ _ _,_,⟨bl,ca,cb,h1,h2,h6,h3,h4,h5⟩=>⟨bl,ca,cb,h1,Nat.lt_of_lt_of_le h2 f.nx,h6,by rw[f.get bl h2 (hs bl h6)];exact h3,jR.iQ f hs h4,jR.iQ f hs h5⟩
theorem jR.fm{P:Nat->Prop}(f:Fm No H H'){r:Ru}(h:jR P H r cs):jR P H' r cs:=h.iQ f fun _ _ h=>h
theorem jR.mono{P Q:Nat->Prop}{H:Hp}(hq:∀ b,b<H.nx->P b->Q b):∀{r:Ru} {cs:List AV},jR P H r cs->jR Q H r cs
 | .leaf _ _ _,_,h=>h
 | .node _ _ _,_,⟨bl,ca,cb,h1,h2,h6,h3,h4,h5⟩=>⟨bl,ca,cb,h1,h2,hq bl h2 h6,h3,jR.mono hq h4,jR.mono hq h5⟩
theorem jR.four{P:Nat->Prop}:∀{r:Ru} {cs:List AV},jR P H r cs->∃ a b c d,cs=[a,b,c,d]
 | .leaf _ _ _,_,h=>⟨_,_,_,_,h⟩
 | .node _ _ _,_,⟨_,_,_,h1,_⟩=>⟨_,_,_,_,h1⟩
def zI(neg:Bool):Ru:=if neg then .leaf 2 (eU 0) sE else .leaf 1 sE sE
def sQ(L:List (List Nat))(n c:Nat)(neg:Bool):Ru:=
 if(kU L n neg).length=0 then zI neg else .leaf 3 ((kU L n neg).getD (c%(kU L n neg).length) ⟨sE,sE⟩).rl ((kU L n neg).getD (c%(kU L n neg).length) ⟨sE,sE⟩).to
theorem qfx(neg:Bool):∃ k rl to,zI neg=.leaf k rl to/\(if neg then ruV 2 (eU 0) sE .aA else ruV 1 sE sE .aA)=.agg [.int .u8 (.ofNat k),.str rl.n rl.a,.str to.n to.a,.aA]:=by
 cases neg
 ·exact⟨1,sE,sE,rfl,rfl⟩
 ·exact⟨2,eU 0,sE,rfl,rfl⟩
theorem z16(L:List (List Nat))(n c:Nat)(neg:Bool):∃ k rl to,sQ L n c neg=.leaf k rl to/\aDc L n c neg=.agg [.int .u8 (.ofNat k),.str rl.n rl.a,.str to.n to.a,.aA]:=by
 unfold sQ aDc;by_cases h:(kU L n neg).length=0
 ·rw[if_pos h,if_pos h];exact qfx neg
 ·rw[if_neg h,if_neg h];exact⟨_,_,_,rfl,rfl⟩
def wR(L:List (List Nat))(n c:Nat)(neg:Bool):Ru:=.leaf 2 ((cmpL (bG L) n neg).getD (c%(cmpL (bG L) n neg).length) sE) sE
def sG(n c:Nat):Nat:=if c%8=6 then 5 else if c%8=7/\0<lvl n then 6 else 4
def eF(L:List (List Nat))(n:Nat):Nat->Nat->Bool->Ru×Nat
 |0,i,neg=>(zI neg,i)
 |d+1,i,neg=>
  if(L.getD n []).length<=i\/12<=i then(zI neg,i)else
  if dZ L n i%8<2 then(zI neg,i+1)else
  if dZ L n i%8<4 then(wR L n (dZ L n i / 8) neg,i+1)else
  if dZ L n i%8=4 then(sQ L n (dZ L n i / 8) neg,i+1)else
  let a:=eF L n d (i+1) neg
  let b:=eF L n d a.2 (neg||decide (sG n (dZ L n i)=6))
  (.node (sG n (dZ L n i)) a.1 b.1,b.2)
theorem qku(L:List (List Nat))(n:Nat):∀(d i:Nat) (neg:Bool),i<=max i 12/\(eF L n d i neg).2<=max i 12
 |0,i,neg=>by unfold eF;omega
 |d+1,i,neg=>by
  unfold eF;split
  ·omega
  split
  ·omega
  split
  ·omega
  split
  ·omega
  have h1:=(qku L n d (i+1) neg).2;have h2:=(qku L n d (eF L n d (i+1) neg).2 (neg||decide (sG n (dZ L n i)=6))).2;simp only;omega
def zsh(C:Nat->Ev.Call)(L:List (List Nat))(n:Nat)(v:AV)(k d:Nat):Prop:=
 ∀(i dep:Nat) (neg:Bool) (H:Hp),dep+d=7->i<1000000->gN H v L->At (bG L) n neg ->
  Ok (C k (.f 49) [.agg [v],iN n,iN i,iN dep,.bool neg] H) fun r H'=>
   ∃cs,r=.aY [.agg cs,iN ((eF L n d i neg).2)]/\jR (fun b=>H.nx<=b) H' (eF L n d i neg).1 cs/\Fm No H H'
theorem qkt{j d:Nat}{L:List (List Nat)}{v:AV}(hR:zsh C L n v j d){i dep kd:Nat}(hd:dep+d+1=7)(hi:i<900000)(hv:gN H v L)(hA:At (bG L) n neg)(hA2:At (bG L) n (neg||decide (kd=6))){cb rb:Nat}(hcb:wO H cb v)(f0:Fm No H0 H)(bWd:H0.nx<=rb)(hrb:rb<H.nx)(hr:H.get rb=aB 0 [.int .u8 (.ofNat 0),.str 0 0,.str 0 0,.aA])(hne:cb<rb\/rb<cb):Ok (qg6 (C j) (iN n) (iN i) (iN dep) (.bool neg) (.ptr cb 0) (.ptr rb 0) (.int .u8 (.ofNat kd)) H) fun r H'=>
   ∃cs,r=.aY [.agg cs,iN ((eF L n d (eF L n d i neg).2 (neg||decide (kd=6))).2)] /\
    jR (fun b=>H0.nx<=b) H' (.node kd (eF L n d i neg).1 (eF L n d (eF L n d i neg).2 (neg||decide (kd=6))).1) cs/\Fm No H0 H':=by
 unfold qg6;have e0:=hcb.is;simp(disch:=omega)only[go_sem,e0];refine Ok.ve (hR i (dep+1) neg H (by omega) (by omega) hv hA) ?_;rintro _ H1 ⟨ca,rfl,hca,f1⟩;obtain⟨a0,a1,a2,a3,rfl⟩:=hca.four;have hat:=(qku L n d i neg).2;have fX:Fm No H1 ((aS H1 (aB 0 [.int .u8 (.ofNat 0),.str 0 0,.str 0 0,.aA])).put H1.nx (aB 0 [a0,a1,a2,a3])):=by exact mO
 have c1:=hcb.fm f1;have e1:=c1.is;have l1:=c1.lt;have n1:=f1.nx;cases neg<;>(
  simp(disch:=first|omega|exact ti rfl|simp only[np,nq];first|done|omega)only[go_sem,rB,rI,rK,rL,rN,rS,r6,e1];refine Ok.ve (hR _ (dep+1) _ _ (by omega) (by omega) ((hv.fm f1).fm fX) hA2) ?_;rintro _ H2 ⟨cb2,rfl,aDi,f2⟩;obtain⟨b0,b1,b2,b3,rfl⟩:=aDi.four;have n2:=f2.nx;simp only[np,nq]at n2;have k2:H2.get H1.nx=aB 0 [a0,a1,a2,a3]:=(f2.keep (by simp only[np,nq];omega)).trans (by simp only[go_sem]);have r2:H2.get rb=aB 0 [.int .u8 (.ofNat 0),.str 0 0,.str 0 0,.aA]:=((f1.trans (fX.trans f2)).keep hrb).trans hr;simp(disch:=first|omega|exact ti rfl|simp only[np,nq];first|done|omega)only[go_sem,seval,k2,r2];have fZ:Fm (fun b=>b=rb) H2 (((aS ((aS H2 (aB 0 [.int .u8 (.ofNat 0),.str 0 0,.str 0 0,.aA])).put H2.nx (aB 0 [b0,b1,b2,b3])) (aB 0 [a0,a1,a2,a3,b0,b1,b2,b3]))).put rb (aB 0 [.int .u8 (.ofNat kd),.str 0 0,.str 0 0,.sl (H2.nx+1) 0 2 2 true])):=by(repeat(first|exact Fm.refl _ _|assumption|refine Fm.push ?_ _|refine Fm.oV ?_ (by first|omega|simp only[np,nq];omega)|refine Fm.aG ?_ _ _ (by first|omega|simp only[np,nq];omega)|refine Fm.put ?_ _ _ (fun _=>rfl)))
  have fF:=(((f0.trans f1).trans fX).trans f2).then fZ fun c hc h=>by omega
  refine Ok.ret ⟨_,rfl,⟨H2.nx+1,_,_,rfl,by simp only[np,nq];omega,by omega,?_,(((hca.fm fX).fm f2).iQ fZ fun b h1 h2=>by omega).mono fun b _ h=>by omega,(aDi.iQ fZ fun b h1 h2=>by simp only[np,nq]at h1;omega).mono fun b _ h=>by simp only[np,nq]at h;omega⟩,fF⟩;simp(disch:=first|omega|exact ti rfl|simp only[np,nq];first|done|omega)only[go_sem])
theorem zv0(hC:bA C){L:List (List Nat)}{v:AV}:∀(d k:Nat),10+d<=k->zsh C L n v k d:=by
 intro d
 induction d with
 |zero=>
  intro k hk i dep neg H hd hi hv hA;obtain⟨j,rfl⟩:∃ j,k=j+1:=⟨k-1,by omega⟩;rw[(hC j).zAp];unfold zAp zmg;have hnL:n<L.length:=Nat.lt_of_lt_of_le hA.lt (Nat.min_le_left _ _);have fX:Fm No H (aS (aS H (aB 0 [v])) (aB 0 [.int .u8 (.ofNat 0),.str 0 0,.str 0 0,.aA])):=by exact qD
  obtain⟨b,o,w,e1,e2,e3,e4⟩:=(hv.fm fX).at hnL;have el:=e4.len;rw[show(vX L[n]).length=L[n].length by simp[vX]]at el;have h3:6<dep:=by omega
  have lK:eF L n 0 i neg=(zI neg,i):=rfl;rw[lK];by_cases h1:L[n].length<=i
  ·simp(disch:=first|omega|exact ti rfl|simp only[np,nq];first|done|omega)only[go_sem,rB,rI,rK,rL,rN,rS,r6,e1,e3,el,h1];refine Ok.ve (qfw hC (k:=j) (by omega) neg _) ?_;rintro _ H3 ⟨rfl,f3⟩;obtain⟨lk,lr,lt,el,ev⟩:=qfx neg;rw[ev];have k3:H3.get (H.nx+1)=aB 0 [.int .u8 (.ofNat 0),.str 0 0,.str 0 0,.aA]:=(f3.keep (by first|omega|simp only[np,nq];omega)).trans (by simp(disch:=first|omega|exact ti rfl|simp only[np,nq];first|done|omega)only[go_sem,seval]);have n3:=f3.nx;simp only[go_sem,seval,k3];exact Ok.ret ⟨_,rfl,by rw[el];rfl,(fX.trans f3).aG _ _ (by omega)⟩
  ·by_cases h2:12<=i
   ·simp(disch:=first|omega|exact ti rfl|simp only[np,nq];first|done|omega)only[go_sem,rB,rI,rK,rL,rN,rS,r6,e1,e3,el,h1,h2];refine Ok.ve (qfw hC (k:=j) (by omega) neg _) ?_;rintro _ H3 ⟨rfl,f3⟩;obtain⟨lk,lr,lt,el,ev⟩:=qfx neg;rw[ev];have k3:H3.get (H.nx+1)=aB 0 [.int .u8 (.ofNat 0),.str 0 0,.str 0 0,.aA]:=(f3.keep (by first|omega|simp only[np,nq];omega)).trans (by simp(disch:=first|omega|exact ti rfl|simp only[np,nq];first|done|omega)only[go_sem,seval]);have n3:=f3.nx;simp only[go_sem,seval,k3];exact Ok.ret ⟨_,rfl,by rw[el];rfl,(fX.trans f3).aG _ _ (by omega)⟩
   ·simp(disch:=first|omega|exact ti rfl|simp only[np,nq];first|done|omega)only[go_sem,rB,rI,rK,rL,rN,rS,r6,e1,e3,el,h1,h2,h3];refine Ok.ve (qfw hC (k:=j) (by omega) neg _) ?_;rintro _ H3 ⟨rfl,f3⟩;obtain⟨lk,lr,lt,el,ev⟩:=qfx neg;rw[ev];have k3:H3.get (H.nx+1)=aB 0 [.int .u8 (.ofNat 0),.str 0 0,.str 0 0,.aA]:=(f3.keep (by first|omega|simp only[np,nq];omega)).trans (by simp(disch:=first|omega|exact ti rfl|simp only[np,nq];first|done|omega)only[go_sem,seval]);have n3:=f3.nx;simp only[go_sem,seval,k3];exact Ok.ret ⟨_,rfl,by rw[el];rfl,(fX.trans f3).aG _ _ (by omega)⟩
 |succ d ih=>
  intro k hk i dep neg H hd hi hv hA;obtain⟨j,rfl⟩:∃ j,k=j+1:=⟨k-1,by omega⟩;rw[(hC j).zAp];unfold zAp zmg;have hnL:n<L.length:=Nat.lt_of_lt_of_le hA.lt (Nat.min_le_left _ _);have bRU:n<12:=Nat.lt_of_lt_of_le hA.lt hA.le;have fX:Fm No H (aS (aS H (aB 0 [v])) (aB 0 [.int .u8 (.ofNat 0),.str 0 0,.str 0 0,.aA])):=by exact qD
  have hvX:=hv.fm fX;have xE:wO (aS (aS H (aB 0 [v])) (aB 0 [.int .u8 (.ofNat 0),.str 0 0,.str 0 0,.aA])) H.nx v:=⟨by first|omega|simp only[np,nq];omega,by simp(disch:=first|omega|exact ti rfl|simp only[np,nq];first|done|omega)only[go_sem,seval]⟩;have hrX:(aS (aS H (aB 0 [v])) (aB 0 [.int .u8 (.ofNat 0),.str 0 0,.str 0 0,.aA])).get (H.nx+1)=aB 0 [.int .u8 (.ofNat 0),.str 0 0,.str 0 0,.aA]:=by simp(disch:=first|omega|exact ti rfl|simp only[np,nq];first|done|omega)only[go_sem,seval]
  obtain⟨b,o,w,e1,e2,e3,e4⟩:=hvX.at hnL;have el:=e4.len;rw[show(vX L[n]).length=L[n].length by simp[vX]]at el;have hnd:L.getD n []=L[n]:=by rw[List.getD_eq_getElem?_getD,List.getElem?_eq_getElem hnL];rfl
  have h3:¬ 6<dep:=by omega
  by_cases hs:L[n].length<=i\/12<=i
  ·have lK:eF L n (d+1) i neg=(zI neg,i):=by unfold eF;rw[hnd,if_pos hs]
   rw[lK];by_cases h1:L[n].length<=i
   ·simp(disch:=first|omega|exact ti rfl|simp only[np,nq];first|done|omega)only[go_sem,rB,rI,rK,rL,rN,rS,r6,e1,e3,el,h1];refine Ok.ve (qfw hC (k:=j) (by omega) neg _) ?_;rintro _ H3 ⟨rfl,f3⟩;obtain⟨lk,lr,lt,el,ev⟩:=qfx neg;rw[ev];have k3:H3.get (H.nx+1)=aB 0 [.int .u8 (.ofNat 0),.str 0 0,.str 0 0,.aA]:=(f3.keep (by first|omega|simp only[np,nq];omega)).trans (by simp(disch:=first|omega|exact ti rfl|simp only[np,nq];first|done|omega)only[go_sem,seval]);have n3:=f3.nx;simp only[go_sem,seval,k3];exact Ok.ret ⟨_,rfl,by rw[el];rfl,(fX.trans f3).aG _ _ (by omega)⟩
   ·have h2:12<=i:=by omega
    simp(disch:=first|omega|exact ti rfl|simp only[np,nq];first|done|omega)only[go_sem,rB,rI,rK,rL,rN,rS,r6,e1,e3,el,h1,h2];refine Ok.ve (qfw hC (k:=j) (by omega) neg _) ?_;rintro _ H3 ⟨rfl,f3⟩;obtain⟨lk,lr,lt,el,ev⟩:=qfx neg;rw[ev];have k3:H3.get (H.nx+1)=aB 0 [.int .u8 (.ofNat 0),.str 0 0,.str 0 0,.aA]:=(f3.keep (by first|omega|simp only[np,nq];omega)).trans (by simp(disch:=first|omega|exact ti rfl|simp only[np,nq];first|done|omega)only[go_sem,seval]);have n3:=f3.nx;simp only[go_sem,seval,k3];exact Ok.ret ⟨_,rfl,by rw[el];rfl,(fX.trans f3).aG _ _ (by omega)⟩
  ·have h1:¬ L[n].length<=i:=by omega
   have h2:¬ 12<=i:=by omega
   have hil:i<L[n].length:=by omega
   obtain⟨b1,o1,g1,g2,g3⟩:=e4.at' i (by simp[vX];omega);have hwv:(vX L[n])[i]'(by simp[vX];omega)=.int .u8 (.ofNat (dZ L n i)):=by unfold dZ;rw[hnd,List.getD_eq_getElem?_getD,List.getElem?_eq_getElem hil];simp[vX]
   rw[hwv]at g3;have hc:=q5x hv n i;simp(disch:=first|omega|exact ti rfl|simp only[np,nq];first|done|omega)only[go_sem,rB,rI,rK,rL,rN,rS,r6,e1,e3,el,h1,h2,h3];unfold zdf;have h8:dZ L n i%8=0\/dZ L n i%8=1\/dZ L n i%8=2\/dZ L n i%8=3\/dZ L n i%8=4\/dZ L n i%8=5\/dZ L n i%8=6\/dZ L n i%8=7:=by omega
   rcases h8 with h|h|h|h|h|h|h|h
   ·have lK:eF L n (d+1) i neg=(zI neg,i+1):=by unfold eF;rw[hnd,if_neg hs,if_pos (by omega)]
    rw[lK];simp(disch:=first|omega|exact ti rfl|simp only[np,nq];first|done|omega)only[go_sem,rB,rI,rK,rL,rN,rS,r6,e1,e3,g1,g3,h];unfold qdk;refine Ok.ve (qfw hC (k:=j) (by omega) neg _) ?_;rintro _ H3 ⟨rfl,f3⟩;obtain⟨lk,lr,lt,el,ev⟩:=qfx neg;rw[ev];have k3:H3.get (H.nx+1)=aB 0 [.int .u8 (.ofNat 0),.str 0 0,.str 0 0,.aA]:=(f3.keep (by first|omega|simp only[np,nq];omega)).trans (by simp(disch:=first|omega|exact ti rfl|simp only[np,nq];first|done|omega)only[go_sem,seval]);have n3:=f3.nx;simp(disch:=first|omega|exact ti rfl|simp only[np,nq];first|done|omega)only[go_sem,rB,rI,rK,rL,rN,rS,r6,k3];exact Ok.ret ⟨_,rfl,by rw[el];rfl,(fX.trans f3).aG _ _ (by omega)⟩
   ·have lK:eF L n (d+1) i neg=(zI neg,i+1):=by unfold eF;rw[hnd,if_neg hs,if_pos (by omega)]
    rw[lK];simp(disch:=first|omega|exact ti rfl|simp only[np,nq];first|done|omega)only[go_sem,rB,rI,rK,rL,rN,rS,r6,e1,e3,g1,g3,h];unfold qdk;refine Ok.ve (qfw hC (k:=j) (by omega) neg _) ?_;rintro _ H3 ⟨rfl,f3⟩;obtain⟨lk,lr,lt,el,ev⟩:=qfx neg;rw[ev];have k3:H3.get (H.nx+1)=aB 0 [.int .u8 (.ofNat 0),.str 0 0,.str 0 0,.aA]:=(f3.keep (by first|omega|simp only[np,nq];omega)).trans (by simp(disch:=first|omega|exact ti rfl|simp only[np,nq];first|done|omega)only[go_sem,seval]);have n3:=f3.nx;simp only[go_sem,seval,k3];exact Ok.ret ⟨_,rfl,by rw[el];rfl,(fX.trans f3).aG _ _ (by omega)⟩
   ·have lK:eF L n (d+1) i neg=(wR L n (dZ L n i / 8) neg,i+1):=by unfold eF;rw[hnd,if_neg hs,if_neg (by omega),if_pos (by omega)]
    rw[lK];simp(disch:=first|omega|exact ti rfl|simp only[np,nq];first|done|omega)only[go_sem,rB,rI,rK,rL,rN,rS,r6,e1,e3,g1,g3,h];unfold qdk;unfold qeu;have c1:=xE.is;simp(disch:=first|omega|exact ti rfl|simp only[np,nq];first|done|omega)only[go_sem,rB,rI,rK,rL,rN,rS,r6,c1];refine Ok.ve (qnj hC (k:=j) (by omega) hvX hA (by omega)) ?_;rintro _ H3 ⟨rfl,f3⟩;obtain⟨lk,lr,lt,el,ev⟩:=(⟨2,(cmpL (bG L) n neg).getD (dZ L n i / 8%(cmpL (bG L) n neg).length) sE,sE,rfl,rfl⟩:∃ k rl to,wR L n (dZ L n i / 8) neg=.leaf k rl to/\ruV 2 ((cmpL (bG L) n neg).getD (dZ L n i / 8%(cmpL (bG L) n neg).length) sE) sE .aA=.agg [.int .u8 (.ofNat k),.str rl.n rl.a,.str to.n to.a,.aA]);rw[ev];have k3:H3.get (H.nx+1)=aB 0 [.int .u8 (.ofNat 0),.str 0 0,.str 0 0,.aA]:=(f3.keep (by first|omega|simp only[np,nq];omega)).trans (by simp(disch:=first|omega|exact ti rfl|simp only[np,nq];first|done|omega)only[go_sem,seval]);have n3:=f3.nx;simp only[go_sem,seval,k3];exact Ok.ret ⟨_,rfl,by rw[el];rfl,(fX.trans f3).aG _ _ (by omega)⟩
   ·have lK:eF L n (d+1) i neg=(wR L n (dZ L n i / 8) neg,i+1):=by unfold eF;rw[hnd,if_neg hs,if_neg (by omega),if_pos (by omega)]
    rw[lK];simp(disch:=first|omega|exact ti rfl|simp only[np,nq];first|done|omega)only[go_sem,rB,rI,rK,rL,rN,rS,r6,e1,e3,g1,g3,h];unfold qdk;unfold qeu;have c1:=xE.is;simp(disch:=first|omega|exact ti rfl|simp only[np,nq];first|done|omega)only[go_sem,rB,rI,rK,rL,rN,rS,r6,c1];refine Ok.ve (qnj hC (k:=j) (by omega) hvX hA (by omega)) ?_;rintro _ H3 ⟨rfl,f3⟩;obtain⟨lk,lr,lt,el,ev⟩:=(⟨2,(cmpL (bG L) n neg).getD (dZ L n i / 8%(cmpL (bG L) n neg).length) sE,sE,rfl,rfl⟩:∃ k rl to,wR L n (dZ L n i / 8) neg=.leaf k rl to/\ruV 2 ((cmpL (bG L) n neg).getD (dZ L n i / 8%(cmpL (bG L) n neg).length) sE) sE .aA=.agg [.int .u8 (.ofNat k),.str rl.n rl.a,.str to.n to.a,.aA]);rw[ev];have k3:H3.get (H.nx+1)=aB 0 [.int .u8 (.ofNat 0),.str 0 0,.str 0 0,.aA]:=(f3.keep (by first|omega|simp only[np,nq];omega)).trans (by simp(disch:=first|omega|exact ti rfl|simp only[np,nq];first|done|omega)only[go_sem,seval]);have n3:=f3.nx;simp only[go_sem,seval,k3];exact Ok.ret ⟨_,rfl,by rw[el];rfl,(fX.trans f3).aG _ _ (by omega)⟩
   ·have lK:eF L n (d+1) i neg=(sQ L n (dZ L n i / 8) neg,i+1):=by unfold eF;rw[hnd,if_neg hs,if_neg (by omega),if_neg (by omega),if_pos h]
    rw[lK];simp(disch:=first|omega|exact ti rfl|simp only[np,nq];first|done|omega)only[go_sem,rB,rI,rK,rL,rN,rS,r6,e1,e3,g1,g3,h];unfold qdk;unfold qeu;have c1:=xE.is;simp(disch:=first|omega|exact ti rfl|simp only[np,nq];first|done|omega)only[go_sem,rB,rI,rK,rL,rN,rS,r6,c1];refine Ok.ve (zpi hC (k:=j) (by omega) hvX (by omega) (by omega)) ?_;rintro _ H3 ⟨rfl,f3⟩;obtain⟨lk,lr,lt,el,ev⟩:=z16 L n (dZ L n i / 8) neg;rw[ev];have k3:H3.get (H.nx+1)=aB 0 [.int .u8 (.ofNat 0),.str 0 0,.str 0 0,.aA]:=(f3.keep (by first|omega|simp only[np,nq];omega)).trans (by simp(disch:=first|omega|exact ti rfl|simp only[np,nq];first|done|omega)only[go_sem,seval]);have n3:=f3.nx;simp only[go_sem,seval,k3];exact Ok.ret ⟨_,rfl,by rw[el];rfl,(fX.trans f3).aG _ _ (by omega)⟩
   ·have hkd:sG n (dZ L n i)=4:=by unfold sG;rw[if_neg (by omega),if_neg (by omega)]
    have hA2:At (bG L) n (neg||decide (4=6)):=by simpa using hA
    have lK:eF L n (d+1) i neg=(.node 4 (eF L n d (i+1) neg).1 (eF L n d (eF L n d (i+1) neg).2 (neg||decide (4=6))).1,(eF L n d (eF L n d (i+1) neg).2 (neg||decide (4=6))).2):=by rw[eF,hnd,if_neg hs,if_neg (by omega),if_neg (by omega),if_neg (by omega),hkd]
    rw[lK];simp(disch:=first|omega|exact ti rfl|simp only[np,nq];first|done|omega)only[go_sem,rB,rI,rK,rL,rN,rS,r6,e1,e3,g1,g3,h];unfold qdk;unfold qeu;exact qkt (ih j (by omega)) (by omega) (by omega) hvX hA hA2 xE fX (by omega) (by first|omega|simp only[np,nq];omega) hrX (by omega)
   ·have hkd:sG n (dZ L n i)=5:=by unfold sG;rw[if_pos h]
    have hA2:At (bG L) n (neg||decide (5=6)):=by simpa using hA
    have lK:eF L n (d+1) i neg=(.node 5 (eF L n d (i+1) neg).1 (eF L n d (eF L n d (i+1) neg).2 (neg||decide (5=6))).1,(eF L n d (eF L n d (i+1) neg).2 (neg||decide (5=6))).2):=by rw[eF,hnd,if_neg hs,if_neg (by omega),if_neg (by omega),if_neg (by omega),hkd]
    rw[lK];simp(disch:=first|omega|exact ti rfl|simp only[np,nq];first|done|omega)only[go_sem,rB,rI,rK,rL,rN,rS,r6,e1,e3,g1,g3,h];unfold qdk;unfold qeu;exact qkt (ih j (by omega)) (by omega) (by omega) hvX hA hA2 xE fX (by omega) (by first|omega|simp only[np,nq];omega) hrX (by omega)
   ·by_cases hup:0<lvl n
    ·have hkd:sG n (dZ L n i)=6:=by unfold sG;rw[if_neg (by omega),if_pos ⟨h,hup⟩]
     have hA2:At (bG L) n (neg||decide (6=6)):=⟨hA.lt,hA.le,fun _=>hup⟩;have lK:eF L n (d+1) i neg=(.node 6 (eF L n d (i+1) neg).1 (eF L n d (eF L n d (i+1) neg).2 (neg||decide (6=6))).1,(eF L n d (eF L n d (i+1) neg).2 (neg||decide (6=6))).2):=by rw[eF,hnd,if_neg hs,if_neg (by omega),if_neg (by omega),if_neg (by omega),hkd]
     rw[lK];simp(disch:=first|omega|exact ti rfl|simp only[np,nq];first|done|omega)only[go_sem,rB,rI,rK,rL,rN,rS,r6,e1,e3,g1,g3,h];unfold qdk;unfold qeu;refine Ok.ve (qd4 hC (k:=j) (by omega) n (by omega) _) ?_;rintro _ H3 ⟨rfl,f3⟩;have r3:H3.get (H.nx+1)=aB 0 [.int .u8 (.ofNat 0),.str 0 0,.str 0 0,.aA]:=(f3.keep (by simp only[np,nq];omega)).trans hrX;have n3:=f3.nx;simp only[np]at n3;simp only[go_sem,hup];exact qkt (ih j (by omega)) (by omega) (by omega) (hvX.fm f3) hA hA2 (xE.fm f3) (fX.trans f3) (by omega) (by omega) r3 (by omega)
    ·have hkd:sG n (dZ L n i)=4:=by unfold sG;rw[if_neg (by omega),if_neg (fun h=>hup h.2)]
     have hA2:At (bG L) n (neg||decide (4=6)):=by simpa using hA
     have lK:eF L n (d+1) i neg=(.node 4 (eF L n d (i+1) neg).1 (eF L n d (eF L n d (i+1) neg).2 (neg||decide (4=6))).1,(eF L n d (eF L n d (i+1) neg).2 (neg||decide (4=6))).2):=by rw[eF,hnd,if_neg hs,if_neg (by omega),if_neg (by omega),if_neg (by omega),hkd]
     rw[lK];simp(disch:=first|omega|exact ti rfl|simp only[np,nq];first|done|omega)only[go_sem,rB,rI,rK,rL,rN,rS,r6,e1,e3,g1,g3,h];unfold qdk;unfold qeu;refine Ok.ve (qd4 hC (k:=j) (by omega) n (by omega) _) ?_;rintro _ H3 ⟨rfl,f3⟩;have r3:H3.get (H.nx+1)=aB 0 [.int .u8 (.ofNat 0),.str 0 0,.str 0 0,.aA]:=(f3.keep (by simp only[np,nq];omega)).trans hrX;have n3:=f3.nx;simp only[np]at n3;simp only[go_sem,hup];exact qkt (ih j (by omega)) (by omega) (by omega) (hvX.fm f3) hA hA2 (xE.fm f3) (fX.trans f3) (by omega) (by omega) r3 (by omega)
theorem jR.flat{P:Nat->Prop}:∀{r:Ru} {cs:List AV},jR P H r cs->cs.all yG=true
 | .leaf _ _ _,_,h=>by rw[show _=_ from h];rfl
 | .node _ _ _,_,⟨_,_,_,h1,_⟩=>by rw[h1];rfl
structure Nd where
 k:Nat
 rl:SS
 to:SS
 neg:Bool
 deriving DecidableEq
def kE(x:Nd×AV):List AV:=[.int .u8 (.ofNat x.1.k),x.1.rl.v,x.1.to.v,x.2,.bool x.1.neg]
theorem qhg(x:Nd×AV):(kE x).length=5:=rfl
def Ru.nodes:Ru->Bool->List Nd
 | .leaf k rl to,neg=>[⟨k,rl,to,neg⟩]
 | .node k a b,neg=>⟨k,sE,sE,neg⟩::(a.nodes neg++b.nodes (neg||decide (k=6)))
def Ru.size:Ru->Nat
 | .leaf _ _ _=>1
 | .node _ a b=>a.size+b.size+1
def Ru.depth:Ru->Nat
 | .leaf _ _ _=>1
 | .node _ a b=>max a.depth b.depth+1
theorem qb7:∀(r:Ru) (neg:Bool),(r.nodes neg).length=r.size
 | .leaf _ _ _,_=>rfl
 | .node _ a b,neg=>by unfold Ru.nodes Ru.size;rw[List.length_cons,List.length_append,qb7 a,qb7 b]
theorem ze0(L:List AV)(o i:Nat)(x:AV)(h:o+i<L.length):(bH L (o+i) [x]).drop o=bH (L.drop o) i [x]:=by unfold bH;simp only[List.length_cons,List.length_nil,Nat.zero_add,List.append_assoc];rw[List.drop_append_of_le_length (by simp;omega),List.drop_take,Nat.add_sub_cancel_left,List.drop_drop];congr 3
theorem Gl.set1{v:AV}(h:Gl z H v n l)(hi:i<n)(hj:j<z)(x:AV):∃b o H',aJ z v (iN i)=.val (.ptr b o)/\storeAt H b (o+j) [x] .undef=.ok .undef H'/\Gl z H' v n (bH l (i*z+j) [x])/\Fm (In v) H H'/\H'.nx=H.nx:=by
 have hl:=h.len;rcases h.is with⟨rfl,rfl⟩|⟨b,o,e,q,L,rfl,h1,h2,h3,h4,h5⟩
 ·omega
 ·have hm:i*z+z<=n*z:=by
   have:(i+1)*z<=n*z:=Nat.mul_le_mul_right z hi;rw[Nat.add_mul,Nat.one_mul]at this;exact this
  have hL:o+n*z=L.length:=by rw[<-h3,List.length_drop]at hl;omega
  have hs:o+i*z+j+[x].length<=L.length:=by simp;omega
  have hb:i*z+j+[x].length<=l.length:=by rw[hl];simp;omega
  refine⟨b,o+i*z,_,sP _ _ _ _ _ _ _ _ hi,qb9 H b _ [x] _ q L h1 hs,⟨?_,.inr ⟨b,o,e,q,_,rfl,eD _ _ _,?_,?_,h4,h5⟩⟩,(Fm.refl _ _).put b _ fun _=>⟨_,_,_,_,rfl⟩,rfl⟩
  ·rw[qdm _ _ _ hb,hl]
  ·rw[qdm _ _ _ hs];exact h2
  ·rw[Nat.add_assoc,ze0 _ _ _ _ (by omega),h3]
theorem zf9(a:AV):∀(l:List (Nd×AV)) (i:Nat) (h:i<l.length),bH (l.flatMap kE) (i*5+3) [a]=(l.set i (l[i].1,a)).flatMap kE
 | [],_,h=>by simp at h
 |x::l,0,_=>by simp[bH,kE]
 |x::l,i+1,h=>by
  have:=zf9 a l i (by simpa using h);rw[List.set_cons_succ,List.flatMap_cons,List.flatMap_cons,List.getElem_cons_succ,<-this];unfold bH;have e:(i+1)*5+3=(kE x).length+(i*5+3):=by rw[qhg];omega
  rw[e,List.take_length_add_append,List.append_assoc,List.append_assoc];congr 1;rw[List.append_assoc];congr 2;rw[Nat.add_assoc,List.drop_length_add_append]
theorem mR.comp{α:Type}{f:α->List AV}{v v':AV}{l l':List α}(h:mR z f S H0 H v l)(h':mR z f (In v) H H' v' l'):mR z f S H0 H' v' l':=
 ⟨h'.gl,h.fm.then h'.fm fun c hc hi=>by
  rcases h.nw c hi with h1|h1
  ·exact h1
  ·omega,fun b hb=>by
  rcases h'.nw b hb with h1|h1
  ·exact h.nw b h1
  ·exact .inr (Nat.le_trans h.fm.nx h1)⟩
def zi3(C:Nat->Ev.Call)(r:Ru)(k:Nat):Prop:=
 ∀(v:AV) (neg:Bool) (H:Hp) {l:List (Nd×AV)} {cs:List AV} {P:Nat->Prop},Gl 5 H v l.length (l.flatMap kE)->jR P H r cs->(∀b,P b->¬ In v b)->l.length+r.size<=1000000 ->
  Ok (C k (.f 81) [v,.agg cs,.bool neg] H) fun w H'=>∃ l',mR 5 kE (In v) H H' w l'/\l'.map Prod.fst=l.map Prod.fst++r.nodes neg
theorem q0n{l:List (Nd×AV)}(h:i<l.length)(x:AV):(l.set i (l[i].1,x)).map Prod.fst=l.map Prod.fst:=by
 refine List.ext_getElem (by simp) fun j h1 h2=>?_;simp only[List.getElem_map,List.getElem_set];split
 ·subst_vars;rfl
 ·rfl
theorem qwb{w:AV}{l:List (Nd×AV)}(h:mR 5 kE S H0 H w l)(hi:i<l.length){x:AV}(hx:x=.aA\/∃ b o n m e,x=.sl b o n m e):Ok (qrn call w (iN i) x H) fun r H'=>∃ l',mR 5 kE S H0 H' r l'/\l'.map Prod.fst=l.map Prod.fst:=by
 obtain⟨b,o,H',e1,e2,g,f,nx⟩:=h.gl.set1 hi (j:=3) (by omega) x;unfold qrn;rw[zf9 x l i hi]at g;refine Ok.mono (Q:=fun r H2=>r=w/\H2=H') ?_ ?_
 ·rcases hx with rfl|⟨_,_,_,_,_,rfl⟩<;>(simp only[go_sem,e1,e2];exact Ok.ret ⟨rfl,rfl⟩)
 ·rintro _ _ ⟨rfl,rfl⟩;exact⟨_,⟨by rw[List.length_set];exact g,h.fm.then f fun c hc hi=>by
   rcases h.nw c hi with h1|h1
   ·exact h1
   ·omega,h.nw⟩,q0n hi x⟩
theorem qp6{r:Ru}(hR:zi3 C r j){g:AV->AV->pD}{Q:pL}{w x:AV}{l:List (Nd×AV)}{xs ca cb cc:List AV}{a0 bl kd t:Nat}{P:Nat->Prop}(hw:Gl 5 H w l.length (l.flatMap kE))(hx:Gl 1 H x t xs)(ht:t<2)(hll:l.length+r.size<=1000000)(ha:a0<H.nx)(hb:bl<H.nx)(ka:H.get a0=aB 0 [.int .u8 (.ofNat kd),sE.v,sE.v,.sl bl 0 2 2 true])(kb:H.get bl=aB 0 (ca++cb))(hrd:fU (aB 0 (ca++cb)) (t*4) 4=some cc)(hrc:jR P H r cc)(d1:∀ b,In x b->¬ In w b)(hda:¬ In w a0/\¬ In x a0)(hdb:¬ In w bl/\¬ In x bl)(dPw:∀ b,P b->¬ In w b)(dPx:∀ b,P b->¬ In x b)(hg:∀(w' x':AV) (H':Hp) (l':List (Nd×AV)) (xs':List AV),Gl 5 H' w' l'.length (l'.flatMap kE)->(∀b,In w' b->In w b\/H.nx<=b)->l'.map Prod.fst=l.map Prod.fst++r.nodes (neg||(decide (kd=6)&&decide (t=1))) -> Fm (fun b=>In w b\/In x b) H H'->Gl 1 H' x' (t+1) xs'->(∀b,In x' b->H.nx<=b/\¬ In w' b)->Ok (g w' x' (iN ((t+1))) H') Q):Ok (qzk (C j) g w (.bool neg) (.ptr a0 0) x (iN t) H) Q:=by
 unfold qzk;have hl:=hw.dA;simp(disch:=first|omega|exact ti rfl|simp only[np,nq];first|done|omega)only[go_sem,rB,rI,rK,rL,rN,rS,r6,hl];have fp:Fm No H (aS H (aB 0 [iN (l.length)])):=by exact lT
 obtain⟨H2,e2,g2,q2,f2,n2⟩:=(hx.no fp).append (k:=1) (w:=8) (x:=[iN (l.length)]) (by omega) rfl (by omega) (by omega);simp only[np]at n2;refine Ok.veE e2 ?_;have fA:Fm (In x) H H2:=(fp.mono (T:=In x) (fun _ _ h=>absurd h id)).then f2 fun _ _ h=>h;have kp:∀ b,b<H.nx->¬ In x b->H2.get b=H.get b:=fun b hb hx'=>fA.get b hb hx';have ka2:H2.get a0=aB 0 [.int .u8 (.ofNat kd),sE.v,sE.v,.sl bl 0 2 2 true]:=(kp a0 ha hda.2).trans ka;have kb2:H2.get bl=aB 0 (ca++cb):=(kp bl hb hdb.2).trans kb;have r2:fU (H2.get bl) (t*4) 4=some cc:=by rw[kb2];exact hrd
 have hcf:=hrc.four;obtain⟨c0,c1,c2,c3,hcc⟩:=hcf;subst hcc;have hwk:Gl 5 H2 w l.length (l.flatMap kE):=hw.keep fA.nx (fun b hb hl=>kp b hl (fun hx'=>d1 b hx' hb));have fin:∀(b:Bool),b=(neg||(decide (kd=6)&&decide (t=1)))->∀(w3:AV) (H3:Hp) (l3:List (Nd×AV)),mR 5 kE (In w) H2 H3 w3 l3->l3.map Prod.fst=l.map Prod.fst++r.nodes b ->
   Ok (g w3 (.sl (aS H (aB 0 [iN (l.length)])).nx 0 (t+1) (t+1) false) (iN ((t+1))) H3) Q:=by
  rintro _ rfl w3 H3 l3 hw3 hl3;refine hg w3 _ H3 l3 _ hw3.gl (fun b hb=>?_) hl3 ?_ (g2.keep hw3.fm.nx fun b hb hlt=>hw3.fm.get b hlt fun h=>?_) (fun b hb=>⟨?_,fun h=>?_⟩)
  ·rcases hw3.nw b hb with h|h
   ·exact .inl h
   ·omega
  ·exact(fA.mono fun _ _ h=>.inr h).then hw3.fm fun _ _ h=>.inl h
  ·obtain⟨_,_,_,_,hb⟩:=hb;cases hb;have:=hw.lt h;simp only[np]at this;omega
  ·obtain⟨_,_,_,_,hb⟩:=hb;cases hb;simp only[np];omega
  ·obtain⟨_,_,_,_,hb⟩:=hb;cases hb;simp only[np]at h;rcases hw3.nw _ h with h|h
   ·have:=hw.lt h;omega
   ·omega
 have call:∀ b:Bool,Ok (C j (.f 81) [w,.agg [c0,c1,c2,c3],.bool b] H2) fun w' H'=>∃ l',mR 5 kE (In w) H2 H' w' l'/\l'.map Prod.fst=l.map Prod.fst++r.nodes b:=fun b=>hR w b H2 hwk (hrc.iQ fA dPx) dPw hll;have aEN:nV 64 (.agg [c0,c1,c2,c3]) (.agg [c0,c1,c2,c3])=true:=by have hfl:=hrc.flat;refine qjm _ ?_;rw[hfl];rfl
 cases neg
 ·by_cases h6:kd=6
  ·subst h6;simp(disch:=omega)only[go_sem,ka2,r2];refine Ok.mY (call (decide (t=1))) ?_;rintro w3 H3 ⟨l3,hw3,hl3⟩;have f3:=hw3.fm;have ka3:H3.get a0=aB 0 [.int .u8 (.ofNat 6),.str 0 0,.str 0 0,.sl bl 0 2 2 true]:=(f3.get a0 (by omega) hda.1).trans ka2;have r3:fU (H3.get bl) (t*4) 4=some [c0,c1,c2,c3]:=by rw[f3.get bl (by omega) hdb.1];exact r2
   have ec:=aEN;unfold qrm;simp(disch:=omega)only[go_sem];exact fin (decide (t=1)) (by simp) w3 H3 l3 hw3 hl3
  ·simp(disch:=omega)only[go_sem,ka2,r2,h6];refine Ok.mY (call false) ?_;rintro w3 H3 ⟨l3,hw3,hl3⟩;have f3:=hw3.fm;have ka3:H3.get a0=aB 0 [.int .u8 (.ofNat kd),.str 0 0,.str 0 0,.sl bl 0 2 2 true]:=(f3.get a0 (by omega) hda.1).trans ka2;have r3:fU (H3.get bl) (t*4) 4=some [c0,c1,c2,c3]:=by rw[f3.get bl (by omega) hdb.1];exact r2
   have ec:=aEN;unfold qrm;simp(disch:=omega)only[go_sem];exact fin false (by simp[h6]) w3 H3 l3 hw3 hl3
 ·simp(disch:=omega)only[go_sem,ka2,r2];refine Ok.mY (call true) ?_;rintro w3 H3 ⟨l3,hw3,hl3⟩;have f3:=hw3.fm;have ka3:H3.get a0=aB 0 [.int .u8 (.ofNat kd),.str 0 0,.str 0 0,.sl bl 0 2 2 true]:=(f3.get a0 (by omega) hda.1).trans ka2;have r3:fU (H3.get bl) (t*4) 4=some [c0,c1,c2,c3]:=by rw[f3.get bl (by omega) hdb.1];exact r2
  have ec:=aEN;unfold qrm;simp(disch:=omega)only[go_sem];exact fin true (by simp) w3 H3 l3 hw3 hl3
theorem mR.base{α:Type}{f:α->List AV}{v:AV}{l:List α}(a:Fm No H0 H1)(h:mR z f S H1 H v l):mR z f S H0 H v l:=
 ⟨h.gl,(a.mono fun _ _ h=>absurd h id).then h.fm fun _ _ h=>h,fun b hb=>(h.nw b hb).imp id fun h=>Nat.le_trans a.nx h⟩
theorem Gl.aBl{α:Type}{f:α->List AV}{v:AV}{l:List α}(h:Gl z H v l.length (l.flatMap f))(a:Fm No H H1):mR z f (In v) H1 H1 v l:=⟨h.no a,Fm.refl _ _,fun _ h=>.inl h⟩
theorem n15(call:Ev.Call)(q:AV->pD)(x2 x4:AV)(n:Nat):qrl call q x2 x4 (n+1)=qiv call q x2 x4 (qrl call q x2 x4 n):=rfl
theorem zn0(hC:bA C):∀(r:Ru) (k:Nat),r.depth<=k->zi3 C r k:=by
 intro r
 induction r with
 |leaf kd rl to=>
  intro k hk v neg H l cs P hv hr hP hll;unfold Ru.depth at hk;obtain⟨j,rfl⟩:∃ j,k=j+1:=⟨k-1,by omega⟩;rw[(hC j).zAz];unfold zAz zl8;obtain rfl:cs=lfC kd rl to:=hr;have hl:=hv.dA;unfold lfC SS.v;simp(disch:=first|omega|exact ti rfl|simp only[np,nq];first|done|omega)only[go_sem,seval,hl];have fX:Fm No H (aS (aS H (aB 0 [.int .u8 (.ofNat kd),.str rl.n rl.a,.str to.n to.a,.aA])) (aB 0 (kE (⟨kd,rl,to,neg⟩,.aA)))):=by exact qD
  refine Ok.ve ((hv.aBl fX).add (⟨kd,rl,to,neg⟩,.aA) 72 rfl (by omega) (by omega)) ?_;intro w H1 hw;have k1:H1.get H.nx=aB 0 [.int .u8 (.ofNat kd),.str rl.n rl.a,.str to.n to.a,.aA]:=(hw.fm.get _ (by first|omega|simp only[np,nq];omega) fun h=>by have:=hv.lt h;omega).trans (by simp(disch:=first|omega|exact ti rfl|simp only[np,nq];first|done|omega)only[go_sem,seval]);unfold qzl;obtain⟨m,hm⟩:∃ m,cK=m+1:=⟨999999,by rw[dM]⟩;rw[dH,hm];rw[n15];unfold qiv;simp only[go_sem,k1];refine(qwb (call:=C j) hw (by simp) (.inl rfl)).mono ?_;rintro r H2 ⟨l',h1,h2⟩;exact⟨l',h1.base fX,by rw[h2];simp[Ru.nodes]⟩
 |node kd a b iha ihb=>
  intro k hk v neg H l cs P hv hr hP hll;unfold Ru.depth at hk;obtain⟨j,rfl⟩:∃ j,k=j+1:=⟨k-1,by omega⟩;rw[(hC j).zAz];unfold zAz zl8;obtain⟨bl,ca,cb,rfl,hbl,hPb,kb,hca,hcb⟩:=hr;have hl:=hv.dA;unfold sE SS.v;simp(disch:=first|omega|exact ti rfl|simp only[np,nq];first|done|omega)only[go_sem,rB,rI,rK,rL,rN,rS,r6,hl];have fX:Fm No H (aS (aS H (aB 0 [.int .u8 (.ofNat kd),.str 0 0,.str 0 0,.sl bl 0 2 2 true])) (aB 0 (kE (⟨kd,sE,sE,neg⟩,.aA)))):=by exact qD
  unfold Ru.size at hll;refine Ok.ve ((hv.aBl fX).add (⟨kd,sE,sE,neg⟩,.aA) 72 rfl (by omega) (by omega)) ?_;intro w H1 hw;have f1:=hw.fm;have n1:=f1.nx;simp only[np]at n1;have k1:H1.get H.nx=aB 0 [.int .u8 (.ofNat kd),.str 0 0,.str 0 0,.sl bl 0 2 2 true]:=(hw.fm.get _ (by first|omega|simp only[np,nq];omega) fun h=>by have:=hv.lt h;omega).trans (by simp(disch:=first|omega|exact ti rfl|simp only[np,nq];first|done|omega)only[go_sem,rB,rI,rK,rL,rN,rS,r6]);have fH:Fm (In v) H H1:=(fX.mono fun _ _ h=>absurd h id).then f1 fun _ _ h=>h;have kb1:H1.get bl=aB 0 (ca++cb):=(fH.get bl hbl (hP bl hPb)).trans kb;have bAa:jR (fun x=>P x/\x<H.nx) H1 a ca:=(hca.mono fun b h1 h2=>(⟨h2,h1⟩:P b/\b<H.nx)).iQ fH fun b h=>hP b h.1;have aX1:jR (fun x=>P x/\x<H.nx) H1 b cb:=(hcb.mono fun b h1 h2=>(⟨h2,h1⟩:P b/\b<H.nx)).iQ fH fun b h=>hP b h.1;have dw:∀ x,In w x->In v x\/H.nx+2<=x:=fun x h=>by
   rcases hw.nw x h with h|h
   ·exact .inl h
   ·exact .inr (by simp only[np]at h;omega)
  have la:ca.length=4:=by obtain⟨_,_,_,_,h⟩:=hca.four;rw[h];rfl
  have lb:cb.length=4:=by obtain⟨_,_,_,_,h⟩:=hcb.four;rw[h];rfl
  have nn:∀ x,¬In AV.aA x:=fun x h=>by obtain⟨_,_,_,_,h⟩:=h;cases h
  have no:∀ x,x<H.nx+2->¬ In v x->¬ In w x:=fun x h1 h2 h=>(dw x h).elim h2 fun h=>by omega
  unfold qzl;obtain⟨m,hm⟩:∃ m,cK=m+3:=⟨999997,by rw[dM]⟩;rw[dH,hm];rw[n15];unfold qiv;simp(disch:=first|omega|exact ti rfl|simp only[np,nq];first|done|omega)only[go_sem,rB,rI,rK,rL,rN,rS,r6,k1];refine qp6 (r:=a) (P:=fun x=>P x/\x<H.nx) (ca:=ca) (cb:=cb) (cc:=ca) (kd:=kd) (bl:=bl) (iha j (by omega)) hw.gl (Gl.nil 1 H1) (by omega) (by simp;omega) (by omega) (by omega) k1 kb1 (by rw[Nat.zero_mul,qb2,if_pos (by simp;omega),List.drop_zero,List.take_left' la]) bAa (fun x h=>absurd h (nn x))
   ⟨no _ (by omega) (fun h=>by have:=hv.lt h;omega),nn _⟩ ⟨no _ (by omega) (hP bl hPb),nn _⟩ (fun x hx=>no _ (by omega) (hP x hx.1)) (fun x _=>nn x) ?_
  intro w2 x2 H2 l2 xs2 hw2 nw2 hl2 f2 hx2 nx2;rw[n15];unfold qiv;have no2:∀ x,x<H1.nx->¬ In w x->¬ In w2 x:=fun x h1 h2 h=>(nw2 x h).elim h2 fun h=>by omega
  have na0:¬ In w H.nx:=no _ (by omega) (fun h=>by have:=hv.lt h;omega);have nbl:¬ In w bl:=no _ (by omega) (hP bl hPb);have fw:∀ x,x<H1.nx->¬ In w x->H2.get x=H1.get x:=fun x h1 h2=>f2.get x h1 fun h=>h.elim h2 (nn x);have n2:=f2.nx;have k2:=(fw _ (by omega) na0).trans k1;have kb2:=(fw _ (by omega) nbl).trans kb1;simp only[go_sem,k2];have aDi:jR (fun x=>P x/\x<H.nx) H2 b cb:=aX1.iQ f2 fun b h=>fun h'=>h'.elim (no _ (by omega) (hP b h.1)) (nn b);have l2n:l2.length=l.length+1+a.size:=by have:=congrArg List.length hl2;simp only[List.length_map,List.length_append,List.length_cons,List.length_nil,qb7]at this;omega
  refine qp6 (r:=b) (P:=fun x=>P x/\x<H.nx) (ca:=ca) (cb:=cb) (cc:=cb) (kd:=kd) (bl:=bl) (t:=1) (ihb j (by omega)) hw2 hx2 (by omega) (by omega) (by omega) (by omega) k2 kb2 (by rw[Nat.one_mul,qb2,if_pos (by simp;omega),List.drop_left' la,<-lb,List.take_length]) aDi (fun x h=>(nx2 x h).2)
   ⟨no2 _ (by omega) na0,fun h=>by have:=(nx2 _ h).1;omega⟩ ⟨no2 _ (by omega) nbl,fun h=>by have:=(nx2 _ h).1;omega⟩ (fun x hx=>no2 _ (by omega) (no _ (by omega) (hP x hx.1))) (fun x hx h=>by have:=(nx2 _ h).1;omega) ?_
  intro w3 x3 H3 l3 xs3 hw3 nw3 hl3 f3 hx3 nx3;rw[n15];unfold qiv;have k3:H3.get H.nx=aB 0 [.int .u8 (.ofNat kd),.str 0 0,.str 0 0,.sl bl 0 2 2 true]:=(f3.get _ (by omega) fun h=>h.elim (no2 _ (by omega) na0) fun h=>by have:=(nx2 _ h).1;omega).trans k2;simp only[go_sem,k3];have l3n:l3.length=l2.length+b.size:=by have:=congrArg List.length hl3;simp only[List.length_map,List.length_append,qb7]at this;omega
  have hS:mR 5 kE (In v) H H3 w3 l3:=by
   refine⟨hw3,?_,?_⟩
   ·refine(fH.then f2 fun c hc h=>?_).then f3 fun c hc h=>?_
    ·rcases h with h|h
     ·exact(dw c h).elim id fun h=>by omega
     ·simp_all
    ·rcases h with h|h
     ·exact(nw2 c h).elim (fun h=>(dw c h).elim id fun h=>by omega) fun h=>by omega
     ·have:=(nx2 c h).1;omega
   ·intro x hx;rcases nw3 x hx with h|h
    ·rcases nw2 x h with h|h
     ·rcases dw x h with h|h
      ·exact .inl h
      ·omega
     ·omega
    ·omega
  refine(qwb (call:=C j) hS (i:=l.length) (by omega) ?_).mono ?_
  ·rcases hx3.is with⟨h,_⟩|⟨_,_,_,_,_,h,_⟩
   ·exact .inl h
   ·simp_all
  ·rintro r H4 ⟨l',h1,h2⟩;refine⟨l',h1,?_⟩;rw[h2,hl3,hl2];simp[Ru.nodes]
def gP(kd:Nat)(s:SS)(n:Nd):Bool:=decide (n.k=kd)&&decide (n.rl=s)
def eP(r:Ru)(kd:Nat)(s:SS):Bool:=(r.nodes false).any (gP kd s)
theorem qtr{call:Ev.Call}{l:List (Nd×AV)}{v:AV}{H:Hp}{kd:Nat}{s:SS}(hv:Rs 5 kE H v l)(hb:l.length<=1000000){Q:pL}{q:pH}{qr:pD}(hr:l.any (fun x=>gP kd s x.1)=true->Ok (qr (.bool true) H) Q)(hq:l.any (fun x=>gP kd s x.1)=false->Ok (q H) Q):∀(k i:Nat),i<=l.length->l.length-i<k->(l.take i).any (fun x=>gP kd s x.1)=false -> Ok (q3d call qr q (.int .u8 (.ofNat kd)) s.v v k (iN i) H) Q
 |0,i,_,h,_=>by omega
 |k+1,i,hi,hk,hn=>by
  show Ok (zdb call _ _ _ _ _ (q3d call _ _ _ _ _ k) _ H) Q;unfold zdb;have hl:=hv.len;by_cases hlt:i<l.length
  ·simp only[go_sem,hl,hlt];unfold zda;obtain⟨b,o,e1,e2,_,e3,e4⟩:=hv.at' i hlt;have r0:dI (H.get b) o=.val (.int .u8 (.ofNat l[i].1.k)):=e4 0 (by rw[qhg];omega);have r1:dI (H.get b) (o+1)=.val (.str l[i].1.rl.n l[i].1.rl.a):=e4 1 (by rw[qhg];omega);have hs:(l.take (i+1)).any (fun x=>gP kd s x.1)=gP kd s l[i].1:=by
    rw[List.take_succ_eq_append_getElem hlt,List.any_append,hn];simp
   unfold SS.v;by_cases h1:l[i].1.k=kd
   ·have h1t:=eq_true h1;by_cases h2:l[i].1.rl.n=s.n/\l[i].1.rl.a=s.a
    ·have h2t:=eq_true h2;have hh:gP kd s l[i].1=true:=by unfold gP;rw[decide_eq_true h1,decide_eq_true ((tO _ _).2 h2)];rfl
     simp only[go_sem,e1,r0,r1,h1t,h2t];refine hr ?_;rw[List.any_eq_true];exact⟨l[i],List.getElem_mem hlt,hh⟩
    ·have hh:gP kd s l[i].1=false:=by unfold gP;rw[decide_eq_false (fun h=>h2 ((tO _ _).1 h))];simp
     simp only[go_sem,e1,r0,r1,h1t,h2];unfold zc8;simp(disch:=first|omega|exact ti rfl|simp only[np,nq];first|done|omega)only[go_sem,rB,rI,rK,rL,rN,rS,r6];exact qtr hv hb hr hq k (i+1) (by omega) (by omega) (by rw[hs,hh])
   ·have hh:gP kd s l[i].1=false:=by unfold gP;rw[decide_eq_false h1];simp
    simp only[go_sem,e1,r0,r1,h1];unfold zc8;simp(disch:=first|omega|exact ti rfl|simp only[np,nq];first|done|omega)only[go_sem,rB,rI,rK,rL,rN,rS,r6];exact qtr hv hb hr hq k (i+1) (by omega) (by omega) (by rw[hs,hh])
  ·have he:i=l.length:=by omega
   simp only[go_sem,hl,hlt];rw[he,List.take_length]at hn;exact hq hn
theorem zr4(hC:bA C){r:Ru}(hk:r.depth+1<=k)(hs:r.size<=100000){P:Nat->Prop}(hr:jR P H r cs)(kd:Nat)(s:SS):Ok (C k (.f 52) [.agg cs,.int .u8 (.ofNat kd),s.v] H) fun v H'=>v=.bool (eP r kd s)/\Fm No H H':=by
 obtain⟨j,rfl⟩:∃ j,k=j+1:=⟨k-1,by omega⟩;rw[(hC j).zAs];unfold zAs zu7;obtain⟨c0,c1,c2,c3,rfl⟩:=hr.four;simp(disch:=omega)only[go_sem,seval];have fX:Fm No H (aS H (aB 0 [c0,c1,c2,c3])):=by exact lT
 have nn:∀ x,¬In AV.aA x:=fun x h=>by obtain⟨_,_,_,_,h⟩:=h;cases h
 refine Ok.ve (zn0 hC r j (by omega) .aA false _ (l:=[]) (Gl.nil 5 _) (hr.fm fX) (fun b _=>nn b) (by simp;omega)) ?_;rintro w H1 ⟨l,hw,hl⟩;have f1:Fm No H H1:=fX.then hw.fm fun c _ h=>absurd h (nn c);have hln:l.length=r.size:=by have:=congrArg List.length hl;simpa [qb7] using this
 have hany:eP r kd s=l.any (fun x=>gP kd s x.1):=by
  have hl':l.map Prod.fst=r.nodes false:=by simpa using hl
  unfold eP;rw[<-hl',List.any_map];rfl
 unfold zre;rw[dH];refine qtr (hw.gl.rs qhg) (by omega) (fun h=>?_) (fun h=>?_) cK 0 (Nat.zero_le _) (by rw[dM];omega) rfl
 ·exact Ok.ret ⟨by rw[hany,h],f1⟩
 ·unfold zc9;exact Ok.ret ⟨by rw[hany,h],f1⟩
structure jA where
 name:SS
 types:List jS
 rule:Ru
structure uE where
 name:SS
 bI:List jA
structure bB where
 r:jA
 tv:AV
 cs:List AV
def iI(g:bB):List AV:=[g.r.name.v,g.tv,g.cs.getD 0 .undef,g.cs.getD 1 .undef,g.cs.getD 2 .undef,g.cs.getD 3 .undef]
theorem qh5(g:bB):(iI g).length=6:=rfl
structure qP(A B:Nat)(H:Hp)(rv:AV)(gs:List bB):Prop where
 gl:Gl 6 H rv gs.length (gs.flatMap iI)
 vN:∀ b,In rv b->A<=b/\b<B
 ty:∀ g∈gs,Rs 2 tC H g.tv g.r.types/\(g.tv=.aA\/∃ b o n m e,g.tv=.sl b o n m e/\n<=m/\0<n)/\∀ b,In g.tv b->A<=b/\b<B/\¬ In rv b
 ru:∀ g∈gs,jR (fun b=>A<=b/\b<B/\¬ In rv b) H g.r.rule g.cs
theorem qP.nil(A B:Nat)(H:Hp):qP A B H .aA []:=⟨Gl.nil 6 H,(fun b h=>by obtain⟨_,_,_,_,h⟩:=h;cases h),(fun g hg=>by cases hg),(fun g hg=>by cases hg)⟩
theorem qP.iQ{A B:Nat}{rv:AV}{gs:List bB}(h:qP A B H rv gs)(f:Fm S H H')(hs:∀ b,A<=b->b<B->¬ S b):qP A B H' rv gs:=
 ⟨h.gl.fm f fun b hb=>hs b (h.vN b hb).1 (h.vN b hb).2,h.vN,fun g hg=>⟨(h.ty g hg).1.iQ f fun b hb=>hs b ((h.ty g hg).2.2 b hb).1 ((h.ty g hg).2.2 b hb).2.1,(h.ty g hg).2⟩,
  fun g hg=>(h.ru g hg).iQ f fun b hb=>hs b hb.1 hb.2.1⟩
theorem qP.up{A B B':Nat}{rv:AV}{gs:List bB}(h:qP A B H rv gs)(hb:B<=B'):qP A B' H rv gs:=
 ⟨h.gl,fun b x=>⟨(h.vN b x).1,Nat.lt_of_lt_of_le (h.vN b x).2 hb⟩,fun g hg=>⟨(h.ty g hg).1,(h.ty g hg).2.1,fun b x=>by have:=(h.ty g hg).2.2 b x;exact⟨this.1,by omega,this.2.2⟩⟩,
  fun g hg=>(h.ru g hg).mono fun b _ x=>⟨x.1,by omega,x.2.2⟩⟩
structure aR where
 name:SS
 gs:List bB
 rv:AV
 A:Nat
 B:Nat
def vP(g:aR):List AV:=[g.name.v,g.rv]
theorem qea(g:aR):(vP g).length=2:=rfl
def aR.sp(g:aR):uE:=⟨g.name,g.gs.map bB.r⟩
variable {g:aR}
structure kP(H:Hp)(sv:AV)(l:List aR):Prop where
 gl:Gl 2 H sv l.length (l.flatMap vP)
 ord:l.Pairwise fun a b=>a.B<=b.A
 rel:∀ g∈l,qP g.A g.B H g.rv g.gs/\g.B<=H.nx
 dj:∀ g∈l,∀b,In sv b->¬(g.A<=b/\b<g.B)
theorem kP.no{l:List aR}(h:kP H sv l)(f:Fm No H H'):kP H' sv l:=
 ⟨h.gl.no f,h.ord,fun g hg=>⟨(h.rel g hg).1.iQ f fun _ _ _ h=>h,Nat.le_trans (h.rel g hg).2 f.nx⟩,h.dj⟩
theorem kP.iQ{l:List aR}(h:kP H sv l)(f:Fm S H H')(hs:∀ b,In sv b->¬ S b)(hg:∀ g∈l,∀b,g.A<=b->b<g.B->¬ S b):kP H' sv l:=
 ⟨h.gl.fm f hs,h.ord,fun g hgl=>⟨(h.rel g hgl).1.iQ f (hg g hgl),Nat.le_trans (h.rel g hgl).2 f.nx⟩,h.dj⟩
theorem kP.push{sv pU:AV}{l:List aR}(h:kP H sv l)(f:Fm S H H')(hg:∀ g∈l,∀b,g.A<=b->b<g.B->¬ S b)(name:SS)(gl:Gl 2 H' pU (l.length+1) (l.flatMap vP++[name.v,.aA]))(nw:∀ b,In pU b->H.nx<=b):kP H' pU (l++[⟨name,[],.aA,H'.nx,H'.nx⟩]):=by
 refine⟨?_,?_,?_,?_⟩
 ·rw[List.length_append,List.flatMap_append,List.flatMap_singleton];exact gl
 ·rw[List.pairwise_append];refine⟨h.ord,List.pairwise_singleton _ _,fun a ha b hb=>?_⟩;rw[List.mem_singleton]at hb;subst hb;exact Nat.le_trans (h.rel a ha).2 f.nx
 ·intro g hgl;rw[List.mem_append,List.mem_singleton]at hgl;rcases hgl with hgl|rfl
  ·exact⟨(h.rel g hgl).1.iQ f (hg g hgl),Nat.le_trans (h.rel g hgl).2 f.nx⟩
  ·exact⟨qP.nil _ _ _,Nat.le_refl _⟩
 ·intro g hgl b hb;rw[List.mem_append,List.mem_singleton]at hgl;rcases hgl with hgl|rfl
  ·have:=nw b hb;have:=(h.rel g hgl).2;omega
  ·simp
def kQ(L:List (List Nat))(n:Nat):jA:=⟨eU n,jY L n,(eF L n 6 2 false).1⟩
structure OfI(L:List (List Nat))(v:AV)(H0 H:Hp)(cb sb:Nat)(sv:AV)(l:List aR)(g:aR):Prop where
 cbk:wO H cb v
 sbk:H.get sb=aB 0 [sv]
 sbl:H0.nx<=sb/\sb<g.A/\sb<H.nx
 cbl:cb<g.A
 ne:cb<sb\/sb<cb
 ns:¬ In sv sb/\¬ In sv cb
 rU:∀ b,In sv b->H0.nx<=b/\b<g.A
 sbd:∀ x∈l,¬(x.A<=sb/\sb<x.B)
 m:kP H sv (l++[g])
 an:∀ x∈l++[g],H0.nx<=x.A
 ax:g.A<=H.nx
 fm:Fm No H0 H
theorem zez(X:List AV)(a b c:AV):bH (X++[a,b]) (X.length+1) [c]=X++[a,c]:=by unfold bH;rw[List.take_length_add_append,Nat.add_assoc,List.drop_length_add_append];simp
theorem znc(hC:bA C)(hj:20<=j){L:List (List Nat)}{v:AV}(hn:n<bG L){cb sb:Nat}{l:List aR}(hv:gN H0 v L)(hI:OfI L v H0 H cb sb sv l g)(hl:l.length=1+n / 4)(hgs:g.gs.length<=12){G:pD}{Q:pL}(hG:∀(H':Hp) (rv':AV) (rg:bB),rg.r=kQ L n->OfI L v H0 H' cb sb sv l ⟨g.name,g.gs++[rg],rv',g.A,H'.nx⟩->Ok (G (iN ((n+1))) H') Q):Ok (qi3 (C j) G (.ptr cb 0) (.ptr sb 0) (iN n) H) Q:=by
 have hm:bG L<=12:=Nat.min_le_right _ _;have hvH:=hv.fm hI.fm;rw[qpc];unfold qsc;have e0:=hI.cbk.is;simp only[go_sem,e0];refine Ok.ve (zv0 hC 6 j (by omega) 2 1 false H (by omega) (by omega) hvH ⟨hn,hm,fun h=>by cases h⟩) ?_;rintro _ H1 ⟨cs,rfl,hcs,f1⟩;obtain⟨c0,c1,c2,c3,rfl⟩:=hcs.four;have n1:=f1.nx;have hsb:=hI.sbl;have s1:=(f1.keep hsb.2.2).trans hI.sbk;have m1:=hI.m.no f1;have hix:1+n / 4<(l++[g]).length:=by simp;omega
 obtain⟨b,o,i1,i2,i3,i4,i5⟩:=(m1.gl.rs qea).at' (1+n / 4) hix;have hlast:(l++[g])[1+n / 4]=g:=by rw[List.getElem_append_right (by omega)];simp[hl]
 rw[hlast]at i4 i5;have r1:dI (H1.get b) (o+1)=.val g.rv:=i5 1 (by rw[qea];omega);have cl:=hI.cbk.lt;have aJb:cb<H1.nx:=by omega
 have k1:=(hI.cbk.fm f1).is;simp(disch:=first|omega|exact ti rfl|simp only[np,nq];first|done|omega)only[go_sem,rB,rI,rK,rL,rN,rS,r6,s1,i1,r1,k1];have er:nV 64 g.rv g.rv=true:=by refine zT ?_ 63;rcases(m1.rel g (by simp)).1.gl.is with⟨h,_⟩|⟨_,_,_,_,_,h,_⟩<;>(rw[h];rfl)
 have ev:nV 64 (.agg [v]) (.agg [v])=true:=qjm _ (by unfold Tr;rw[List.all_cons,hvH.flat];rfl);have ec:nV 64 (.agg [c0,c1,c2,c3]) (.agg [c0,c1,c2,c3])=true:=qjm _ (by unfold Tr;rw[hcs.flat];rfl);have fX:Fm No H1 ⟨((aS H1 (aB 0 [.int .u8 (.ofNat 0),.str 0 0,.str 0 0,.aA])).put H1.nx (aB 0 [c0,c1,c2,c3])).t,H1.nx+1+17⟩:=by(repeat(first|exact Fm.refl _ _|assumption|refine Fm.push ?_ _|refine Fm.oV ?_ (by first|omega|simp only[np,nq];omega)|refine Fm.aG ?_ _ _ (by first|omega|simp only[np,nq];omega)))
 refine Ok.mY (qvr hC (k:=j) (by omega) n (by omega) _) ?_;rintro _ H3 ⟨rfl,f3⟩;have n3:H1.nx+1+17<=H3.nx:=f3.nx;have q3:H3.get H1.nx=aB 0 [c0,c1,c2,c3]:=(f3.keep (show H1.nx<H1.nx+1+17 by omega)).trans (by simp only[go_sem]);have f13:=fX.trans f3;have k3:=(f13.keep aJb).trans k1;have r3:dI (H3.get b) (o+1)=.val g.rv:=by rw[f13.keep i2];exact r1
 unfold SS.v;simp only[go_sem,seval,q3,k3,r3,er,ev,ec];refine Ok.mY (q3l hC (k:=j) (by omega) ((hvH.fm f1).fm f13) hn) ?_;intro tv H4 ht;have f4:=ht.fm;have n4:=f4.nx;have q4:=(f4.keep (show H1.nx<H3.nx by omega)).trans q3;have k4:=(f4.keep (by omega)).trans k3;have r4:dI (H4.get b) (o+1)=.val g.rv:=by rw[f4.keep (by omega)];exact r3
 have htl:0<(jY L n).length:=by unfold jY rY;simp
 obtain⟨tb,to,te,htv⟩:∃ tb to te,tv=.sl tb to (jY L n).length (jY L n).length te:=by
  rcases ht.gl.is with⟨_,h⟩|⟨tb,to,te,_,_,h,_⟩
  ·omega
  ·exact⟨tb,to,te,h⟩
 subst htv;simp only[go_sem,seval,q4,k4,r4,er,ev,ec];have gB:g.B<=H.nx:=(hI.m.rel g (by simp)).2;have ax:=hI.ax;have fV:Fm No H1 (H4.put (H1.nx+1+12) (aB 0 [.str (eU n).n (eU n).a,.sl tb to (jY L n).length (jY L n).length te,c0,c1,c2,c3])):=(f13.trans f4).aG _ _ (by omega);have aV8:=(m1.rel g (by simp)).1.iQ fV fun _ _ _ h=>h;obtain⟨H5,e5,g5,q5,f5,n5⟩:=aV8.gl.append (k:=1) (w:=104) (x:=[.str (eU n).n (eU n).a,.sl tb to (jY L n).length (jY L n).length te,c0,c1,c2,c3]) (by omega) rfl (by omega) (by omega);simp only[nq]at e5 g5 q5 n5;refine Ok.y7 e5 ?_;have rin:∀ x,In g.rv x->g.A<=x/\x<g.B:=fun x hx=>(m1.rel g (by simp)).1.vN x hx;have rU:=hI.rU;have f15:Fm (In g.rv) H1 H5:=(fV.mono fun _ _ h=>absurd h id).then f5 fun _ _ h=>h;have gl5:Gl 2 H5 sv (l++[g]).length ((l++[g]).flatMap vP):=m1.gl.fm f15 fun x hx h=>by have:=(rU x hx).2;have:=(rin x h).1;omega
 obtain⟨b',o',H6,i6,e6,g6,f6,n6⟩:=gl5.set1 hix (j:=1) (by omega) (.sl H4.nx 0 (g.gs.length+1) (g.gs.length+1) false);rw[i1]at i6;injection i6 with i6;injection i6 with i6 i7;subst i6 i7;simp only[go_sem,seval,e6];rw[qpe];unfold qsd;simp(disch:=omega)only[go_sem];have f16:Fm (fun x=>In g.rv x\/In sv x) H1 H6:=(f15.mono fun _ _ h=>.inl h).then f6 fun _ _ h=>.inr h;have n16:H1.nx<=H6.nx:=f16.nx;have hlow:∀ x,x<g.A->¬ In sv x->x<H1.nx->H6.get x=H1.get x:=fun x h1 h2 h3=>f16.get x h3 fun h=>h.elim (fun h=>by have:=(rin x h).1;omega) h2;refine hG H6 (.sl H4.nx 0 (g.gs.length+1) (g.gs.length+1) false) ⟨kQ L n,.sl tb to (jY L n).length (jY L n).length te,[c0,c1,c2,c3]⟩ rfl ⟨⟨by omega,(hlow cb hI.cbl hI.ns.2 aJb).trans k1⟩,(hlow sb hsb.2.1 hI.ns.1 (by omega)).trans s1,⟨hsb.1,hsb.2.1,by omega⟩,hI.cbl,hI.ne,hI.ns,hI.rU,hI.sbd,?_,?_,by show g.A<=H6.nx;omega,?_⟩
 ·have oM:∀ x,In (.sl H4.nx 0 (g.gs.length+1) (g.gs.length+1) false) x->x=H4.nx:=fun x hx=>by
   obtain⟨_,_,_,_,hx⟩:=hx;cases hx;rfl
  refine⟨?_,?_,?_,?_⟩
  ·rw[List.length_append,List.flatMap_append,List.flatMap_singleton]at g6 ⊢;rw[show(1+n / 4)*2+1=(l.flatMap vP).length+1 by
    have:∀ q:List aR,(q.flatMap vP).length=q.length*2:=fun q=>by
     induction q with
     |nil=>rfl
     |cons a q ih=>rw[List.flatMap_cons,List.length_append,ih,qea,List.length_cons];omega
    rw[this,hl]]at g6
   unfold vP at g6 ⊢;rw[zez]at g6;exact g6
  ·have ho:=m1.ord;rw[List.pairwise_append]at ho ⊢;refine⟨ho.1,List.pairwise_singleton _ _,fun a ha c hc=>?_⟩;rw[List.mem_singleton]at hc;subst hc;exact ho.2.2 a ha g (by simp)
  ·intro x hx;rw[List.mem_append,List.mem_singleton]at hx;rcases hx with hx|rfl
   ·have ho:=m1.ord;rw[List.pairwise_append]at ho;have hxg:=ho.2.2 x hx g (by simp);refine⟨(m1.rel x (by simp[hx])).1.iQ f16 fun c h1 h2 h=>?_,Nat.le_trans (m1.rel x (by simp[hx])).2 n16⟩;rcases h with h|h
    ·have:=(rin c h).1;omega
    ·exact m1.dj x (by simp[hx]) c h ⟨h1,h2⟩
   ·have hr:=(m1.rel g (by simp)).1;refine⟨⟨?_,?_,?_,?_⟩,Nat.le_refl _⟩
    ·show Gl 6 H6 _ (g.gs++[_]).length ((g.gs++[_]).flatMap iI);rw[List.length_append,List.flatMap_append,List.flatMap_singleton];exact g5.fm f6 fun c hc h=>by have:=oM c hc;have:=(rU c h).2;omega
    ·intro c hc;have:=oM c hc;show g.A<=c/\c<H6.nx;omega
    ·intro y hy;show _/\_/\∀ c,In y.tv c->g.A<=c/\c<H6.nx/\_;rw[List.mem_append,List.mem_singleton]at hy;rcases hy with hy|rfl
     ·obtain⟨h1,h2,h3⟩:=hr.ty y hy;refine⟨h1.iQ f16 fun c hc h=>?_,h2,fun c hc=>⟨(h3 c hc).1,by have:=(h3 c hc).2.1;omega,fun h=>by have:=oM c h;have:=(h3 c hc).2.1;omega⟩⟩;rcases h with h|h
      ·exact(h3 c hc).2.2 h
      ·have:=(rU c h).2;have:=(h3 c hc).1;omega
     ·have tin:∀ c,In (.sl tb to (jY L n).length (jY L n).length te) c->H3.nx<=c/\c<H4.nx:=fun c hc=>⟨ht.nw c hc,ht.gl.lt hc⟩;refine⟨?_,.inr ⟨_,_,_,_,_,rfl,Nat.le_refl _,q6d L n⟩,fun c hc=>⟨by have:=(tin c hc).1;omega,by have:=(tin c hc).2;omega,fun h=>by have:=oM c h;have:=(tin c hc).2;omega⟩⟩;have aXP:Fm (fun x=>x=H1.nx+1+12) H4 (H4.put (H1.nx+1+12) (aB 0 [.str (eU n).n (eU n).a,.sl tb to (jY L n).length (jY L n).length te,c0,c1,c2,c3])):=(Fm.refl _ _).put _ _ fun _=>rfl;refine(((ht.rs qu7).iQ aXP fun c hc h=>?_).iQ f5 fun c hc h=>?_).iQ f6 fun c hc h=>?_
      ·have:=(tin c hc).1;omega
      ·have:=(tin c hc).1;have:=(rin c h).2;omega
      ·have:=(tin c hc).1;have:=(rU c h).2;omega
    ·intro y hy;show jR (fun c=>g.A<=c/\c<H6.nx/\_) H6 _ _;rw[List.mem_append,List.mem_singleton]at hy;rcases hy with hy|rfl
     ·refine((hr.ru y hy).iQ f16 fun c hc h=>?_).mono fun c _ hc=>⟨hc.1,by omega,fun h=>by have:=oM c h;omega⟩;rcases h with h|h
      ·exact hc.2.2 h
      ·have:=(rU c h).2;omega
     ·have h1:jR (fun c=>H.nx<=c/\c<H1.nx) H1 (eF L n 6 2 false).1 [c0,c1,c2,c3]:=hcs.mono fun c h1 h2=>⟨h2,h1⟩;refine(h1.iQ f16 fun c hc h=>?_).mono fun c _ hc=>⟨by omega,by omega,fun h=>by have:=oM c h;omega⟩;rcases h with h|h
      ·have:=(rin c h).2;omega
      ·have:=(rU c h).2;omega
  ·intro x hx c hc;rw[List.mem_append,List.mem_singleton]at hx;rcases hx with hx|rfl
   ·exact m1.dj x (by simp[hx]) c hc
   ·have:=(rU c hc).2;show ¬(g.A<=c/\_);omega
 ·intro x hx;rw[List.mem_append,List.mem_singleton]at hx;rcases hx with hx|rfl
  ·exact hI.an x (by simp[hx])
  ·exact hI.an g (by simp)
 ·refine(hI.fm.trans f1).then f16 fun c hc h=>?_;rcases h with h|h
  ·have:=(rin c h).1;have:=hI.an g (by simp);omega
  ·have:=(rU c h).1;omega
theorem zfp(hC:bA C)(hj:20<=j){L:List (List Nat)}{v:AV}(hn:n<bG L)(h4:n%4=0){cb sb:Nat}{l:List aR}(hI:OfI L v H0 H cb sb sv l g)(hl:l.length<=1000){G:pD}{Q:pL}(hG:∀(H':Hp) (pU:AV) (A:Nat),OfI L v H0 H' cb sb pU (l++[g]) ⟨bV (n / 4),[],.aA,A,A⟩->Ok (qi3 (C j) G (.ptr cb 0) (.ptr sb 0) (iN n) H') Q):Ok (qsk (C j) G (.ptr cb 0) (.ptr sb 0) (iN n) H) Q:=by
 have hm:bG L<=12:=Nat.min_le_right _ _;rw[qg7];unfold qhs;have hsb:=hI.sbl;have s0:=hI.sbk;have m0:=hI.m;have es:nV 64 sv sv=true:=by refine zT ?_ 63;rcases m0.gl.is with⟨h,_⟩|⟨_,_,_,_,_,h,_⟩<;>(rw[h];rfl)
 simp(disch:=first|omega|exact ti rfl|simp only[np,nq];first|done|omega)only[go_sem,rB,rI,rK,rL,rN,rS,r6,s0,h4];have fX:Fm No H ⟨H.t,H.nx+10⟩:=by(repeat(first|exact Fm.refl _ _|assumption|refine Fm.push ?_ _|refine Fm.oV ?_ (by first|omega|simp only[np,nq];omega)|refine Fm.aG ?_ _ _ (by first|omega|simp only[np,nq];omega)))
 refine Ok.mY (qkq hC (k:=j) (by omega) (n / 4) (by omega) _) ?_;rintro _ H1 ⟨rfl,f1⟩;have o7:=fX.trans f1;have n1:H.nx+10<=H1.nx:=f1.nx;have s1:=(o7.keep hsb.2.2).trans s0;unfold SS.v;simp only[go_sem,seval,s1,es];have fV:Fm No H (H1.put (H.nx+6) (aB 0 [.str (bV (n / 4)).n (bV (n / 4)).a,.aA])):=o7.aG _ _ (by omega);have mV:=m0.no fV;obtain⟨H2,e2,g2,q2,f2,n2⟩:=mV.gl.append (k:=1) (w:=40) (x:=[.str (bV (n / 4)).n (bV (n / 4)).a,.aA]) (by omega) rfl (by simp;omega) (by simp;omega);simp only[nq]at e2 g2 q2 n2;have sb2:H2.get sb=aB 0 [sv]:=(f2.get sb (by simp only[nq];omega) hI.ns.1).trans ((fV.keep hsb.2.2).trans s0);refine Ok.y7 e2 ?_;simp only[go_sem,seval,sb2];have fS:Fm (fun x=>x=sb) H2 (H2.put sb (aB 0 [.sl H1.nx 0 ((l++[g]).length+1) ((l++[g]).length+1) false])):=(Fm.refl _ _).put _ _ fun _=>rfl;have vW:Fm (In sv) H H2:=(fV.mono fun _ _ h=>absurd h id).then f2 fun _ _ h=>h;have fA:Fm (fun x=>In sv x\/x=sb) H (H2.put sb (aB 0 [.sl H1.nx 0 ((l++[g]).length+1) ((l++[g]).length+1) false])):=(vW.mono fun _ _ h=>.inl h).then fS fun _ _ h=>.inr h;have oM:∀ x,In (.sl H1.nx 0 ((l++[g]).length+1) ((l++[g]).length+1) false) x->x=H1.nx:=fun x hx=>by obtain⟨_,_,_,_,hx⟩:=hx;cases hx;rfl
 have rU:=hI.rU;have cl:=hI.cbk.lt;have nsb:∀ x∈l++[g],¬(x.A<=sb/\sb<x.B):=fun x hx=>by
  rw[List.mem_append,List.mem_singleton]at hx;rcases hx with hx|rfl
  ·exact hI.sbd x hx
  ·omega
 refine hG _ (.sl H1.nx 0 ((l++[g]).length+1) ((l++[g]).length+1) false) H2.nx ⟨⟨?_,?_⟩,eD _ _ _,⟨hsb.1,?_,?_⟩,?_,hI.ne,⟨fun h=>?_,fun h=>?_⟩,fun x hx=>?_,nsb,?_,fun x hx=>?_,Nat.le_refl _,?_⟩
 ·show cb<H2.nx;omega
 ·rw[dJ _ _ _ _ (by have:=hI.ne;omega)];exact(vW.get cb cl hI.ns.2).trans hI.cbk.is
 ·show sb<H2.nx;omega
 ·show sb<H2.nx;omega
 ·show cb<H2.nx;omega
 ·have:=oM _ h;omega
 ·have:=oM _ h;omega
 ·have h0:=hI.fm.nx;have:=oM _ hx;show _/\x<H2.nx;omega
 ·refine m0.push fA (fun x hx b h1 h2 h=>?_) _ ?_ fun b hb=>by have:=oM _ hb;omega
  ·rcases h with h|rfl
   ·exact m0.dj x hx b h ⟨h1,h2⟩
   ·exact nsb x hx ⟨h1,h2⟩
  ·exact g2.fm fS fun b hb h=>by have:=oM _ hb;omega
 ·rw[List.mem_append,List.mem_singleton]at hx;rcases hx with hx|rfl
  ·exact hI.an x hx
  ·have h0:=hI.fm.nx;show H0.nx<=H2.nx;omega
 ·refine hI.fm.then fA fun c hc h=>?_;rcases h with h|rfl
  ·have:=(rU c h).1;omega
  ·omega
end Go.Di
end
