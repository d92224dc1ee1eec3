/-
 For StrataOf: functions in direct style, their contracts, and the plain mathematics, part 3 of 9. No conditions beyond those that each theorem states.
-/
import Derived.Test.YtighkibjecdbnaaGreatEv4
import Derived.Test.YtighkibjecdbnaaGreatConB
import Derived.Test.YtighkibjecdbnaaGreatConA
set_option linter.unusedSimpArgs false
set_option linter.unusedVariables false
open Nat (reduceAdd reduceMul reduceSub reduceLeDiff reduceEqDiff reduceShiftRight reduceAnd)
noncomputable section
namespace Go.Di
open Go.Ev
variable {P:Program} {d n:Nat} {call:Ev.Call}
theorem Lk.cst{α:Type}{c:Code}{K:Kt d}{X Y:α}(e:X=Y)(f:α->TT AV d->Hp->R1)(h:Lk P d n call c K (f Y)):Lk P d n call c K (f X):=by rw[e];exact h
theorem dB{f:FuncId}{F:Func}(hf:P.funcs[f]? =some F){args:List AV}(h:(!(F.name == "runtime.NumGoroutine")&&(F.body.isSome&&(zJ (codeOf F)&&(Nat.ble args.length F.ntmps&&Nat.ble (F.ntmps+1) 262144))))=true)
  {D:TT AV (gV (F.ntmps+1))->Hp->R1} (l:Lk P (gV (F.ntmps+1)) F.ntmps call (codeOf F) (aC3 (qb6 P (gV (F.ntmps+1)) F.ntmps F.results.toList).f) D) (H:Hp) :
  (aT P f).f call args H=D (mO args 0 (same .undef _)) H:=by
 rw[Bool.and_eq_true,Bool.and_eq_true,Bool.and_eq_true]at h
 exact qfl hf (by simpa using h.1) h.2.1 h.2.2.1 h.2.2.2 l H
end Go.Di
end
noncomputable section
namespace Go.Di
open Go.Ev
structure LP where
 n:Nat
 ps:List Tmp
 aC:Code
 bd:Code
def LP.blk(p:LP)(b:Bool)(L:TT AV 2):bP:= .loop b none 2 p.n L p.ps p.aC p.bd
def pu(L:TT AV 2):List (Nat×AV)->TT AV 2
 | []=>L
 |p::r=>pu ((setter 2 p.1).f L p.2) r
theorem zv0{l:Nat}{v:AV}{H':Hp}{L:TT AV 2}{p:LP}{M:TT AV 2}{i:Nat}{E:TT AV 2->Hp->R1}{K:Kt 2}(h:H'.get l=p.blk true M):fin (endLoop l (.ok v H') L) (wJ i (thn E K))=E L (H'.put l .dead):=by
 unfold endLoop
 simp only[h]
 rfl
theorem zfp{l:Nat}{H:Hp}{L M:TT AV 2}{p:LP}(h:H.get l=p.blk false M):endRound l (.ok .normal L H)= .ok (.bool true) (H.put l (p.blk true M)):=by
 unfold endRound
 simp only[zpl,h]
 rfl
def qxo(call:Ev.Call)(x2 x5:AV)(H:Hp):R1 :=
 vq (aO 0 x5) H fun a3 H =>
 vq (aH H a3) H fun a4 H =>
 ve (call (.f 77) [a4] H) fun a5 H =>
 vq (aO 0 x5) H fun a6 H =>
 ve (eY H a6 a5) fun _ H =>
 vq (aX 2 H x5) H fun a8 H =>
 ve (dX 2 H x2 a8) fun _ H =>
 eG (jC (iY (rV (aX 2 H x2)) (iY (some (iN 0)) (some [])))) H
def qgo(call:Ev.Call)(l:Nat)(L:TT AV 2)(x5 x6:AV)(H:Hp):R1 :=
 dz 8 H fun b16 H =>
 dn 0 0 b16 H [] [] (aO 0 x5) fun a17 H p w =>
 dl 1 1 b16 H p w (fun H=>aH H a17) fun cZ H p w =>
 dn 2 0 b16 H p w (.val x6) fun dJ H p w =>
 de 4 H p w (call (.f 39) [dJ] (bO 4 p H)) (some true) fun a20 H p w =>
 da 4 12 b16 H p w (jL 1 (b16+4) (dD (bB [.aA] 1) [(0,1,a20)])) fun a21 H p w =>
 de 31 H p w (iJ 1 24 (bO 31 p H) cZ (jY 1 (bO 31 p H) a21)) (some true) fun a22 H p w =>
 dn 6 63 b16 H p w (aO 0 x5) fun a23 H p w =>
 de 127 H p w (eY (bO 127 p H) a23 a22) (some true) fun _ H p w =>
 jO p H fun H =>
 endRound l (.ok .normal L H)
def qxn(call:Ev.Call)(g27:AV->Hp->R1)(x29:AV)(H:Hp):R1 :=
 vq (aB (aK .add).f x29 (iN 1)) H fun a29 H =>
 g27 a29 H
def qxm(call:Ev.Call)(g27:AV->Hp->R1)(x5 x27 x29:AV)(H:Hp):R1 :=
 vq (aL 1 x27 x29) H fun a31 H =>
 vq (aH H a31) H fun a32 H =>
 vq (aO 1 x5) H fun a33 H =>
 vq (aH H a33) H fun a34 H =>
 vq (aO 0 x5) H fun a35 H =>
 vq (aH H a35) H fun a36 H =>
 vq (aG a36) H fun a37 H =>
 vq (aL 1 a34 a32) H fun a38 H =>
 ve (eY H a38 a37) fun _ H =>
 qxn call g27 x29 H
def qxp(call:Ev.Call)(vB:Hp->R1)(x5 x27 x28:AV)(g27:AV->Hp->R1)(x29:AV)(H:Hp):R1 :=
 vq (aB (aK .lss).f x29 x28) H fun a28 H =>
 cd a28 (
 qxm call g27 x5 x27 x29 H) (
 vB H)
def qh7(call:Ev.Call)(vB:Hp->R1)(x5 x27 x28:AV)(n:Nat):AV->Hp->R1 :=
 Nat.rec (motive:=fun _=>AV->Hp->R1) (fun _ _=> .bad) (fun _ ih=>qxp call vB x5 x27 x28 ih) n
def qxq(call:Ev.Call)(vB:Hp->R1)(x5 x27 x28:AV):AV->Hp->R1:=qh7 call vB x5 x27 x28 dM
def rC(call:Ev.Call)(l:Nat)(L:TT AV 2)(x5 x26:AV)(H:Hp):R1 :=
 vq (aG x26) H fun a26 H =>
 qxq call (fun H=>qgo call l L x5 x26 H) x5 x26 a26 (iN 0) H
def zin(LO:LP)(call:Ev.Call)(L:TT AV 2)(x25:AV)(H:Hp):R1 :=
 fin (endLoop H.nx (qhx call x25 [.yield H.nx] (aR H (LO.blk true L))) L) (wJ 0 (thn (fun L H=>qxo call (G L 2) (G L 5) H) (aC3 fun L H=>jC (iY (rV (aX 2 H (G L 2))) (iY (some (G L 3)) (some []))))))
def qkm(LO:LP)(call:Ev.Call)(L:TT AV 2)(x1:AV)(H:Hp):R1 :=
 dz 0 H fun b11 H =>
 dl 0 0 b11 H [] [] (fun H=>aX 2 H x1) fun a12 H p w =>
 dl 1 0 b11 H p w (fun H=>aX 2 H x1) fun bR H p w =>
 de 2 H p w (call (.f 76) [bR] (bO 2 p H)) (some true) fun cB H p w =>
 de 7 H p w (call (.f 75) [a12,cB] (bO 7 p H)) (some true) fun bV H p w =>
 jO p H fun H =>
 zin LO call (pu L [(22,a12),(23,bR),(24,cB),(25,bV)]) bV H
def qxl(LO:LP)(call:Ev.Call)(L:TT AV 2)(x1 x2:AV)(H:Hp):R1 :=
 vq (.new (.ptr H.nx 0) (aD 0 [.aA,.aA])) H fun a2 H =>
 vq (aO 0 x1) H fun a42 H =>
 vq (aH H a42) H fun a43 H =>
 vq (aB (aK .gtr).f a43 (iN 0)) H fun a44 H =>
 cd a44 (
 vq (aO 0 x1) H fun a45 H =>
 vq (aH H a45) H fun a46 H =>
 vq (qe7 [iN 0] 8 H.nx a46 a46) H fun a47 H =>
 vq (aO 1 a2) H fun a48 H =>
 ve (eY H a48 a47) fun _ H =>
 qkm LO call (pu L [(5,a2),(15,a42),(16,a43),(17,a44),(18,a45),(19,a46),(20,a47),(21,a48)]) x1 H) (
 qkm LO call (pu L [(5,a2),(15,a42),(16,a43),(17,a44)]) x1 H)
def zra(LO:LP)(call:Ev.Call)(L:TT AV 2)(x0:AV)(H:Hp):R1 :=
 vq (bM 2 H.nx x0) H fun a0 H =>
 vq (.new (.ptr H.nx 0) (aD 0 [.aA,.aA])) H fun a1 H =>
 vq (aX 2 H a0) H fun a51 H =>
 ve (call (.f 74) [a51] H) fun a52 H =>
 vq (aB (aK .neq).f a52 (iN 0)) H fun a53 H =>
 cd a53 (
 vq (dH (dD [.aA,.aA] [])) H fun a54 H =>
 ve (dX 2 H a1 a54) fun _ H =>
 eG (jC (iY (rV (aX 2 H a1)) (iY (some a52) (some [])))) H) (
 qxl LO call (pu L [(1,a0),(2,a1),(3,iN 0),(9,a51),(10,a52),(4,a52),(11,a52),(12,a53)]) a0 a1 H)
def zBo(LO:LP)(call:Ev.Call)(x0:AV)(H:Hp):R1:=zra LO call (mO [x0] 0 (same .undef 2)) x0 H
def qfs(call:Ev.Call)(x2:AV)(H:Hp):R1 :=
 vq (aH H x2) H fun a1 H =>
 .ok a1 H
def dY(call:Ev.Call)(l:Nat)(L:TT AV 2)(x2 x7:AV)(H:Hp):R1 :=
 vq (aH H x2) H fun a3 H =>
 vq (jL 1 H.nx (dD (bB [iN 0] 1) [(0,1,x7)])) H fun a4 H =>
 ve (iJ 1 8 H a3 (jY 1 H a4)) fun a5 H =>
 ve (eY H x2 a5) fun _ H =>
 endRound l (.ok .normal L H)
def qg5(LA:LP)(call:Ev.Call)(L:TT AV 2)(x1:AV)(H:Hp):R1 :=
 fin (endLoop H.nx (qhx call x1 [.yield H.nx] (aR H (LA.blk true L))) L) (wJ 0 (thn (fun L H=>qfs call (G L 2) H) (aC3 fun L _=>some (G L 4))))
def qg6(LA:LP)(call:Ev.Call)(L:TT AV 2)(x0 x1:AV)(H:Hp):R1 :=
 vq (lJ H.nx x0) H fun a0 H =>
 qg5 LA call (pu L [(2,a0),(4,.aA),(6,x1)]) x1 H
def jI(LA:LP)(call:Ev.Call)(x0 x1:AV)(H:Hp):R1:=qg6 LA call (mO [x0,x1] 0 (same .undef 2)) x0 x1 H
structure aSP(LA LO:LP)(c d:Ev.Call):Prop where
 jI:∀(x0 x1:AV) (H:Hp),c (.f 190) [x0,x1] H=Di.jI LA d x0 x1 H
 dY:∀(L:TT AV 2) (l:Nat) (v:AV) (H:Hp),H.get l=LA.blk true L->c (.y l) [v] H=Di.dY d l L (G L 2) v (H.put l (LA.blk false L))
 zBo:∀(x0:AV) (H:Hp),c (.f 48) [x0] H=Di.zBo LO d x0 H
 rC:∀(L:TT AV 2) (l:Nat) (v:AV) (H:Hp),H.get l=LO.blk true L->c (.y l) [v] H=Di.rC d l L (G L 5) v (H.put l (LO.blk false L))
abbrev qF(LA LO:LP)(C:Nat->Ev.Call):Prop:=∀ k,aSP LA LO (C (k+1)) (C k)
structure Lnk(c d:Ev.Call):Prop where
 zAa:∀ x0 x1 x2 H,c (.f 3) [x0,x1,x2] H=Di.zAa d x0 x1 x2 H
 zAc:∀ x0 H,c (.f 6) [x0] H=Di.zAc d x0 H
 zAd:∀ x0 H,c (.f 7) [x0] H=Di.zAd d x0 H
 zAe:∀ x0 H,c (.f 8) [x0] H=Di.zAe d x0 H
 zAf:∀ x0 H,c (.f 10) [x0] H=Di.zAf d x0 H
 zAg:∀ x0 H,c (.f 9) [x0] H=Di.zAg d x0 H
 zAh:∀ x0 H,c (.f 11) [x0] H=Di.zAh d x0 H
 zAi:∀ x0 x1 x2 H,c (.f 12) [x0,x1,x2] H=Di.zAi d x0 x1 x2 H
 zAj:∀ x0 H,c (.f 13) [x0] H=Di.zAj d x0 H
 zAk:∀ x0 x1 H,c (.f 14) [x0,x1] H=Di.zAk d x0 x1 H
 zAl:∀ x0 x1 x2 x3 H,c (.f 15) [x0,x1,x2,x3] H=Di.zAl d x0 x1 x2 x3 H
 zAm:∀ x0 x1 x2 H,c (.f 16) [x0,x1,x2] H=Di.zAm d x0 x1 x2 H
 zAn:∀ x0 H,c (.f 25) [x0] H=Di.zAn d x0 H
 zAo:∀ x0 H,c (.f 26) [x0] H=Di.zAo d x0 H
 zAp:∀ x0 x1 x2 x3 x4 H,c (.f 27) [x0,x1,x2,x3,x4] H=Di.zAp d x0 x1 x2 x3 x4 H
 zAq:∀ x0 H,c (.f 28) [x0] H=Di.zAq d x0 H
 zAr:∀ x0 x1 H,c (.f 29) [x0,x1] H=Di.zAr d x0 x1 H
 zAs:∀ x0 x1 x2 H,c (.f 30) [x0,x1,x2] H=Di.zAs d x0 x1 x2 H
 zAt:∀ x0 H,c (.f 18) [x0] H=Di.zAt d x0 H
 zAu:∀ x0 H,c (.f 23) [x0] H=Di.zAu d x0 H
 zAv:∀ x0 x1 H,c (.f 31) [x0,x1] H=Di.zAv d x0 x1 H
 zAw:∀ x0 x1 H,c (.f 32) [x0,x1] H=Di.zAw d x0 x1 H
 zAx:∀ x0 H,c (.f 33) [x0] H=Di.zAx d x0 H
 zAy:∀ x0 x1 x2 H,c (.f 34) [x0,x1,x2] H=Di.zAy d x0 x1 x2 H
 zAz:∀ x0 x1 x2 H,c (.f 35) [x0,x1,x2] H=Di.zAz d x0 x1 x2 H
 zBa:∀ x0 x1 x2 x3 H,c (.f 36) [x0,x1,x2,x3] H=Di.zBa d x0 x1 x2 x3 H
 zBb:∀ x0 x1 x2 x3 H,c (.f 37) [x0,x1,x2,x3] H=Di.zBb d x0 x1 x2 x3 H
 zBc:∀ x0 H,c (.f 38) [x0] H=Di.zBc d x0 H
 zBd:∀ x0 H,c (.f 39) [x0] H=Di.zBd d x0 H
 zBe:∀ x0 H,c (.f 56) [x0] H=Di.zBe d x0 H
 zBf:∀ x0 x1 x2 x3 H,c (.f 57) [x0,x1,x2,x3] H=Di.zBf d x0 x1 x2 x3 H
 zBg:∀ x0 x1 x2 x3 H,c (.f 58) [x0,x1,x2,x3] H=Di.zBg d x0 x1 x2 x3 H
 zBh:∀ x0 H,c (.f 59) [x0] H=Di.zBh d x0 H
 zBi:∀ x0 x1 x2 H,c (.f 60) [x0,x1,x2] H=Di.zBi d x0 x1 x2 H
 zBj:∀ x0 H,c (.f 40) [x0] H=Di.zBj d x0 H
 zBk:∀ x0 H,c (.f 41) [x0] H=Di.zBk d x0 H
 zBl:∀ x0 x1 x2 x3 x4 x5 x6 H,c (.f 42) [x0,x1,x2,x3,x4,x5,x6] H=Di.zBl d x0 x1 x2 x3 x4 x5 x6 H
 zBm:∀ x0 x1 x2 x3 H,c (.f 43) [x0,x1,x2,x3] H=Di.zBm d x0 x1 x2 x3 H
 zBn:∀ x0 H,c (.f 44) [x0] H=Di.zBn d x0 H
 zBp:∀ x0 H,c (.f 53) [x0] H=Di.zBp d x0 H
 zBq:∀ x0 H,c (.f 54) [x0] H=Di.zBq d x0 H
 zBr:∀ x0 H,c (.f 61) [x0] H=Di.zBr d x0 H
 zBs:∀ x0 x1 H,c (.f 46) [x0,x1] H=Di.zBs d x0 x1 H
 zBt:∀ x0 x1 x2 H,c (.f 89) [x0,x1,x2] H=Di.zBt d x0 x1 x2 H
 zBu:∀ x0 H,c (.f 62) [x0] H=Di.zBu d x0 H
 zBv:∀ x0 x1 x2 H,c (.f 63) [x0,x1,x2] H=Di.zBv d x0 x1 x2 H
 zBw:∀ x0 H,c (.f 64) [x0] H=Di.zBw d x0 H
 zBx:∀ x0 x1 x2 H,c (.f 65) [x0,x1,x2] H=Di.zBx d x0 x1 x2 H
 zBy:∀ x0 x1 x2 x3 H,c (.f 66) [x0,x1,x2,x3] H=Di.zBy d x0 x1 x2 x3 H
 zBz:∀ x0 x1 H,c (.f 67) [x0,x1] H=Di.zBz d x0 x1 H
 zCb:∀ x0 H,c (.f 70) [x0] H=Di.zCb d x0 H
 zCc:∀ x0 H,c (.f 69) [x0] H=Di.zCc d x0 H
 zCd:∀ x0 H,c (.f 74) [x0] H=Di.zCd d x0 H
 zCe:∀ x0 H,c (.f 76) [x0] H=Di.zCe d x0 H
 zCf:∀ x0 x1 H,c (.f 75) [x0,x1] H=Di.zCf d x0 x1 H
 zCg:∀ x0 H,c (.f 77) [x0] H=Di.zCg d x0 H
 zCi:∀ x0 H,c (.f 91) [x0] H=Di.zCi d x0 H
 zCj:∀ x0 x1 x2 x3 H,c (.f 93) [x0,x1,x2,x3] H=Di.zCj d x0 x1 x2 x3 H
 zCk:∀ x0 x1 H,c (.f 94) [x0,x1] H=Di.zCk d x0 x1 H
 zCl:∀ x0 x1 x2 x3 H,c (.f 96) [x0,x1,x2,x3] H=Di.zCl d x0 x1 x2 x3 H
 zCm:∀ x0 x1 x2 H,c (.f 98) [x0,x1,x2] H=Di.zCm d x0 x1 x2 H
 zCn:∀ x0 H,c (.f 92) [x0] H=Di.zCn d x0 H
 zCo:∀ x0 x1 x2 x3 x4 x5 x6 H,c (.f 100) [x0,x1,x2,x3,x4,x5,x6] H=Di.zCo d x0 x1 x2 x3 x4 x5 x6 H
 zCp:∀ x0 H,c (.f 102) [x0] H=Di.zCp d x0 H
 zCq:∀ x0 H,c (.f 103) [x0] H=Di.zCq d x0 H
 zCr:∀ x0 x1 H,c (.f 105) [x0,x1] H=Di.zCr d x0 x1 H
 zCs:∀ x0 H,c (.f 106) [x0] H=Di.zCs d x0 H
 zCt:∀ x0 H,c (.f 104) [x0] H=Di.zCt d x0 H
 zCu:∀ x0 x1 H,c (.f 115) [x0,x1] H=Di.zCu d x0 x1 H
 zCv:∀ x0 x1 H,c (.f 113) [x0,x1] H=Di.zCv d x0 x1 H
 zCw:∀ x0 x1 x2 x3 H,c (.f 114) [x0,x1,x2,x3] H=Di.zCw d x0 x1 x2 x3 H
 zCx:∀ x0 H,c (.f 123) [x0] H=Di.zCx d x0 H
 zCy:∀ x0 x1 H,c (.f 95) [x0,x1] H=Di.zCy d x0 x1 H
 zCz:∀ x0 x1 x2 H,c (.f 97) [x0,x1,x2] H=Di.zCz d x0 x1 x2 H
 zDa:∀ x0 x1 H,c (.f 99) [x0,x1] H=Di.zDa d x0 x1 H
 zDb:∀ x0 H,c (.f 101) [x0] H=Di.zDb d x0 H
 zDc:∀ x0 H,c (.f 130) [x0] H=Di.zDc d x0 H
 zDd:∀ x0 x1 H,c (.f 143) [x0,x1] H=Di.zDd d x0 x1 H
 zDe:∀ x0 x1 H,c (.f 144) [x0,x1] H=Di.zDe d x0 x1 H
 zDf:∀ x0 x1 H,c (.f 124) [x0,x1] H=Di.zDf d x0 x1 H
 zDg:∀ x0 x1 H,c (.f 126) [x0,x1] H=Di.zDg d x0 x1 H
 zDh:∀ x0 x1 H,c (.f 125) [x0,x1] H=Di.zDh d x0 x1 H
 zDj:∀ x0 x1 H,c (.f 171) [x0,x1] H=Di.zDj d x0 x1 H
 zDk:∀ x0 H,c (.f 173) [x0] H=Di.zDk d x0 H
 zDl:∀ x0 H,c (.f 172) [x0] H=Di.zDl d x0 H
 zDm:∀ x0 x1 H,c (.f 155) [x0,x1] H=Di.zDm d x0 x1 H
 zDn:∀ x0 x1 H,c (.f 128) [x0,x1] H=Di.zDn d x0 x1 H
 zDo:∀ x0 x1 H,c (.f 127) [x0,x1] H=Di.zDo d x0 x1 H
 zDp:∀ x0 x1 H,c (.f 156) [x0,x1] H=Di.zDp d x0 x1 H
 zDq:∀ x0 x1 H,c (.f 186) [x0,x1] H=Di.zDq d x0 x1 H
 zDr:∀ x0 H,c (.f 185) [x0] H=Di.zDr d x0 H
 zDs:∀ x0 x1 H,c (.f 157) [x0,x1] H=Di.zDs d x0 x1 H
abbrev bC(C:Nat->Ev.Call):Prop:=∀ k,Lnk (C (k+1)) (C k)
abbrev qna(C:Nat->Ev.Call):Prop:=bC C
theorem dK:cK=1000000:=rfl
attribute [go_sem] qk2 qk1 qk0 qkz qn6 qri qn5 qrh qn4 qrg qn3 qrf qn2 qre qn1 qrd qn0 qrc qnp qpz qno qpy qnn qpx qtp qwy
theorem Gl.atN{z n:Nat}{H:Hp}{v:AV}{l:List AV}(h:Gl z H v n l){i:Nat}(hi:i<n):∃ b o,aL z v (iN i)= .val (.ptr b o)/\b<H.nx/\In v b/\iZ (H.get b) o z=some ((l.drop (i*z)).take z)/\∀(j:Nat),j<z->bT (H.get b) (o+j)= .val (l.getD (i*z+j) .undef):=by
 have hl:=h.len
 rcases h.is with⟨rfl,rfl⟩|⟨b,o,e,q,L,rfl,h1,h2,h3,h4,h5⟩
 ·omega
 ·have hm:i*z+z<=n*z:=by
   have:(i+1)*z<=n*z:=Nat.mul_le_mul_right z hi
   rw[Nat.add_mul,Nat.one_mul]at this;exact this
  have hL:o+n*z=L.length:=by rw[<-h3,List.length_drop]at hl;omega
  refine⟨b,o+i*z,sP _ _ _ _ _ _ _ _ hi,h5,⟨_,_,_,_,rfl⟩,?_,fun j hj=> ?_⟩
  ·rw[h1,qb2,if_pos (by omega),<-List.drop_drop,h3]
  ·rw[h1,qb3]
   have:L[o+i*z+j]? =l[i*z+j]? :=by rw[<-h3,List.getElem?_drop];congr 1;omega
   rw[this,List.getElem?_eq_getElem (by omega)]
   simp[List.getD_eq_getElem?_getD,show i*z+j<l.length by omega]
structure Rs{α:Type}(z:Nat)(f:α->List AV)(H:Hp)(v:AV)(l:List α):Prop where
 len:aG v= .val (iN (l.length))
 at':∀ i (h:i<l.length),∃b o,aL z v (iN i)= .val (.ptr b o)/\b<H.nx/\In v b/\iZ (H.get b) o z=some (f l[i])/\∀ j (h:j<(f l[i]).length),bT (H.get b) (o+j)= .val (f l[i])[j]
theorem Rs.iD{α:Type}{z:Nat}{f:α->List AV}{S:Nat->Prop}{H H':Hp}{v:AV}{l:List α}(h:Rs z f H v l)(a:Fm S H H')(hs:∀ b,In v b->¬ S b):Rs z f H' v l:=⟨h.len,fun i hi=>by
 obtain⟨b,o,h1,h2,h5,h3,h4⟩:=h.at' i hi
 have e:=a.get b h2 (hs b h5)
 exact⟨b,o,h1,Nat.lt_of_lt_of_le h2 a.nx,h5,by rw[e];exact h3,fun j hj=>by rw[e];exact h4 j hj⟩⟩
theorem Rs.fm{α:Type}{z:Nat}{f:α->List AV}{H H':Hp}{v:AV}{l:List α}(h:Rs z f H v l)(a:Fm No H H'):Rs z f H' v l:=h.iD a fun _ _ h=>h
structure Ac{α:Type}(z:Nat)(f:α->List AV)(H0 H:Hp)(v:AV)(l:List α):Prop where
 gl:Gl z H v l.length (l.flatMap f)
 fm:Fm No H0 H
 nw:∀ b,In v b->H0.nx<=b
theorem Ac.nil{α:Type}(z:Nat)(f:α->List AV){H0 H:Hp}(h:Fm No H0 H):Ac z f H0 H .aA ([]:List α):=⟨Gl.nil z H,h,fun b hb=>by obtain⟨_,_,_,_,h⟩:=hb;cases h⟩
theorem Ac.no{α:Type}{z:Nat}{f:α->List AV}{H0 H H':Hp}{v:AV}{l:List α}(h:Ac z f H0 H v l)(a:Fm No H H'):Ac z f H0 H' v l:=⟨h.gl.no a,h.fm.trans a,h.nw⟩
theorem Ac.cO{α:Type}{z:Nat}{f:α->List AV}{H0 H:Hp}{v:AV}{l:List α}(h:Ac z f H0 H v l):aG v= .val (iN (l.length)):=h.gl.cO
theorem Ac.add{α:Type}{z:Nat}{f:α->List AV}{H0 H:Hp}{v:AV}{l:List α}(h:Ac z f H0 H v l)(x:α)(w:Nat)(hx:(f x).length=z)(hb:(l.length+1)*w<=1099511627776)(hb2:l.length+1<=1099511627776) :
  Ok (iJ z w H v (some ⟨1,f x⟩)) fun v' H'=>Ac z f H0 H' v' (l++[x]):=by
 obtain⟨H',e,gl',_,zC,nx'⟩:=h.gl.append (k:=1) (w:=w) (x:=f x) (by omega) (by omega) hb hb2
 refine⟨_,H',e,?_,h.fm.then zC fun c hc hi=>by have:=h.nw c hi;omega,fun b hb=> ?_⟩
 ·simp_all
 ·obtain⟨_,_,_,_,h'⟩:=hb
  cases h'
  exact h.fm.nx
theorem qmn{α:Type}{z:Nat}{f:α->List AV}(hf:∀ x,(f x).length=z):∀(l:List α) (i:Nat) (h:i<l.length),((l.flatMap f).drop (i*z)).take z=f l[i]
 | [],_,h=>by simp at h
 |a::l,0,_=>by
  simp_all
 |a::l,i+1,h=>by
  rw[List.flatMap_cons,Nat.add_mul,Nat.one_mul,Nat.add_comm,<-List.drop_drop,List.drop_left' (hf a)]
  exact qmn hf l i (by simpa using h)
theorem Gl.rs{α:Type}{z:Nat}{f:α->List AV}(hf:∀ x,(f x).length=z){H:Hp}{v:AV}{l:List α}(h:Gl z H v l.length (l.flatMap f)):Rs z f H v l:=⟨h.cO,fun i hi=>by
 obtain⟨b,o,e1,e2,e3,e4,e5⟩:=h.atN hi
 rw[qmn hf l i hi]at e4
 refine⟨b,o,e1,e2,e3,e4,fun j hj=> ?_⟩
 rw[e5 j (by rw[hf]at hj;exact hj)]
 have:(f l[i])[j]? =(l.flatMap f)[i*z+j]? :=by
  rw[<-qmn hf l i hi,List.getElem?_take,if_pos (by rw[hf]at hj;exact hj),List.getElem?_drop]
 rw[List.getElem?_eq_getElem hj]at this
 rw[List.getD_eq_getElem?_getD,<-this];rfl⟩
theorem Ac.rs{α:Type}{z:Nat}{f:α->List AV}(hf:∀ x,(f x).length=z){H0 H:Hp}{v:AV}{l:List α}(h:Ac z f H0 H v l):Rs z f H v l:=h.gl.rs hf
theorem Gl.lt{z n:Nat}{H:Hp}{v:AV}{l:List AV}(h:Gl z H v n l){b:Nat}(hb:In v b):b<H.nx:=by
 obtain⟨o,n',m,e,rfl⟩:=hb
 rcases h.is with⟨h1,_⟩|⟨b',o',e',q,L,h1,_,_,_,_,h5⟩
 ·cases h1
 ·simp_all
structure mP{α:Type}(z:Nat)(f:α->List AV)(S:Nat->Prop)(H0 H:Hp)(v:AV)(l:List α):Prop where
 gl:Gl z H v l.length (l.flatMap f)
 fm:Fm S H0 H
 nw:∀ b,In v b->S b\/H0.nx<=b
theorem mP.no{α:Type}{z:Nat}{f:α->List AV}{S:Nat->Prop}{H0 H H':Hp}{v:AV}{l:List α}(h:mP z f S H0 H v l)(a:Fm No H H'):mP z f S H0 H' v l:=⟨h.gl.no a,h.fm.then a fun _ _ h=>absurd h id,h.nw⟩
theorem mP.cO{α:Type}{z:Nat}{f:α->List AV}{S:Nat->Prop}{H0 H:Hp}{v:AV}{l:List α}(h:mP z f S H0 H v l):aG v= .val (iN (l.length)):=h.gl.cO
theorem mP.add{α:Type}{z:Nat}{f:α->List AV}{S:Nat->Prop}{H0 H:Hp}{v:AV}{l:List α}(h:mP z f S H0 H v l)(x:α)(w:Nat)(hx:(f x).length=z)(hb:(l.length+1)*w<=1099511627776)(hb2:l.length+1<=1099511627776) :
  Ok (iJ z w H v (some ⟨1,f x⟩)) fun v' H'=>mP z f S H0 H' v' (l++[x]):=by
 obtain⟨H',e,gl',_,zC,nx'⟩:=h.gl.append (k:=1) (w:=w) (x:=f x) (by omega) (by omega) hb hb2
 refine⟨_,H',e,?_,h.fm.then zC fun c hc hi=> ?_,fun b hb=> ?_⟩
 ·simp_all
 ·rcases h.nw c hi with h|h
  ·exact h
  ·omega
 ·obtain⟨_,_,_,_,h'⟩:=hb
  cases h'
  exact .inr h.fm.nx
theorem Ac.start{α:Type}{z:Nat}{f:α->List AV}{H0 H:Hp}{v:AV}{l:List α}(h:Ac z f H0 H v l):mP z f (In v) H H v l:=⟨h.gl,Fm.refl _ _,fun _ h=> .inl h⟩
theorem Ac.old{α:Type}{z:Nat}{f:α->List AV}{H0 H H':Hp}{v:AV}{l:List α}(h:Ac z f H0 H v l)(a:Fm (In v) H H'):Fm No H0 H':=h.fm.then a fun c hc hi=>by have:=h.nw c hi;omega
theorem Ac.fin{α:Type}{z:Nat}{f:α->List AV}{H0 H H':Hp}{v v':AV}{l l':List α}(h:Ac z f H0 H v l)(h':mP z f (In v) H H' v' l'):Ac z f H0 H' v' l':=⟨h'.gl,h.old h'.fm,fun b hb=>by
 rcases h'.nw b hb with h1|h1
 ·exact h.nw b h1
 ·exact Nat.le_trans h.fm.nx h1⟩
end Go.Di
end
noncomputable section
namespace Go.Di
open Go.Ev
variable {C:Nat->Ev.Call}
structure SS where
 n:Nat
 a:Nat
 deriving DecidableEq
def SS.v(s:SS):AV:= .str s.n s.a
def sE:SS:=⟨0,0⟩
def sU:SS:=⟨4,1919251317⟩
def lvl(n:Nat):Nat:=[0,1,1,2].getD (n%4) 0
def fC(n:Nat):SS:=⟨2,12402+256*(n%4)⟩
def bX(n:Nat):SS:=⟨1,97+n%3⟩
def bF(L:List (List Nat)):Nat:=min L.length 12
def dW(L:List (List Nat))(n i:Nat):Nat:=(L.getD n []).getD i 0
structure Rl(H:Hp)(v:AV)(l:List AV):Prop where
 len:aG v= .val (iN (l.length))
 at':∀ i (h:i<l.length),∃b o,aL 1 v (iN i)= .val (.ptr b o)/\b<H.nx/\bT (H.get b) o= .val l[i]
theorem Rl.fm{H H':Hp}{v:AV}{l:List AV}(h:Rl H v l)(f:Fm No H H'):Rl H' v l:=⟨h.len,fun i hi=>by
 obtain⟨b,o,h1,h2,h3⟩:=h.at' i hi
 exact⟨b,o,h1,Nat.lt_of_lt_of_le h2 f.nx,by rw[f.keep h2];exact h3⟩⟩
def qL(l:List Nat):List AV:=l.map fun x=> .int .u8 (.ofNat x)
structure gJ(H:Hp)(v:AV)(L:List (List Nat)):Prop where
 flat:sZ v=true
 ex:∃ ws:List AV,Rl H v ws/\ws.length=L.length/\∀ i (h:i<ws.length) (h':i<L.length),Rl H ws[i] (qL L[i])
 lt:∀ l∈L,∀x∈l,x<256
theorem gJ.fm{H H':Hp}{v:AV}{L:List (List Nat)}(h:gJ H v L)(f:Fm No H H'):gJ H' v L:=by
 obtain⟨ws,h1,h2,h3⟩:=h.ex
 exact⟨h.flat,⟨ws,h1.fm f,h2,fun i a b=>(h3 i a b).fm f⟩,h.lt⟩
theorem gJ.len{H:Hp}{v:AV}{L:List (List Nat)}(h:gJ H v L):aG v= .val (iN (L.length)):=by
 obtain⟨ws,h1,h2,_⟩:=h.ex
 rw[h1.len,h2]
theorem gJ.at{H:Hp}{v:AV}{L:List (List Nat)}(h:gJ H v L){i:Nat}(hi:i<L.length):∃ b o w,aL 1 v (iN i)= .val (.ptr b o)/\b<H.nx/\bT (H.get b) o= .val w/\Rl H w (qL L[i]):=by
 obtain⟨ws,h1,h2,h3⟩:=h.ex
 obtain⟨b,o,e1,e2,e3⟩:=h1.at' i (by omega)
 exact⟨b,o,ws[i]'(by omega),e1,e2,e3,h3 i (by omega) hi⟩
theorem q54(n a:Nat):xM (.str n a)=some [.str n a]:=id rfl
theorem zv2(x:List AV):bB x 4=x++(x++(x++x)):=id (by show x++(x++(x++(x++[])))=_;rw[List.append_nil])
attribute [go_sem] q54 zv2
theorem aQ7(a b:Nat):nW mI (iN a) [iN b]= .val (iN ((min a b))):=by
 show R0.val (.int .i64 (bif nO (.ofNat b) (.ofNat a)then .ofNat b else .ofNat a))=_
 rw[yX]
 by_cases h:b<a
 ·rw[decide_eq_true (by simp only[Int.ofNat_eq_natCast];omega),Nat.min_eq_right (by omega)];rfl
 ·rw[decide_eq_false (by simp only[Int.ofNat_eq_natCast];omega),Nat.min_eq_left (by omega)];rfl
theorem qix(hC:bC C){k:Nat}(hk:1<=k){H:Hp}{v:AV}{L:List (List Nat)}(h:gJ H v L) :
  Ok (C k (.f 25) [.agg [v]] H) fun r H'=>r=iN ((bF L))/\Fm No H H':=by
 obtain⟨j,rfl⟩:=aW hk
 rw[(hC j).zAn]
 unfold zAn zrz
 have e:=h.len
 simp(disch:=omega) only[go_sem,e,aQ7]
 exact Ok.ret ⟨rfl,by exact jW⟩
theorem at4{α:Type}(a b c d:α)(n:Nat):[a,b,c,d][n%4]? =some ([a,b,c,d].getD (n%4) a):=by
 have h4:n%4<4:=Nat.mod_lt _ (by omega)
 match n%4,h4 with
 |0,_|1,_|2,_|3,_=>rfl
theorem at3{α:Type}(a b c:α)(n:Nat):[a,b,c][n%3]? =some ([a,b,c].getD (n%3) a):=by
 have h3:n%3<3:=Nat.mod_lt _ (by omega)
 match n%3,h3 with
 |0,_|1,_|2,_=>rfl
theorem qdz(hC:bC C){k:Nat}(hk:1<=k)(n:Nat)(hn:n<1000000)(H:Hp) :
  Ok (C k (.f 59) [iN n] H) fun r H'=>r=iN ((lvl n))/\Fm No H H':=by
 obtain⟨j,rfl⟩:=aW hk
 rw[(hC j).zBh]
 unfold zBh zrg
 have h4:n%4<4:=Nat.mod_lt _ (by omega)
 simp(disch:=first|omega|exact ti rfl|(simp only[np,nq];first|done|omega)) only[go_sem,reduceAdd,reduceLeDiff,at4]
 refine Ok.ret ⟨?_,by exact jW⟩
 unfold lvl
 match n%4,h4 with
 |0,_|1,_|2,_|3,_=>rfl
theorem quy(hC:bC C){k:Nat}(hk:1<=k)(n:Nat)(hn:n<1000000)(H:Hp) :
  Ok (C k (.f 28) [iN n] H) fun r H'=>r=(fC n).v/\Fm No H H':=by
 obtain⟨j,rfl⟩:=aW hk
 rw[(hC j).zAq]
 unfold zAq zrx
 have h4:n%4<4:=Nat.mod_lt _ (by omega)
 simp(disch:=first|omega|exact ti rfl|(simp only[np,nq];first|done|omega)) only[go_sem,reduceAdd,reduceLeDiff,at4]
 refine Ok.ret ⟨?_,by exact jW⟩
 unfold fC SS.v
 match n%4,h4 with
 |0,_|1,_|2,_|3,_=>rfl
theorem qju(hC:bC C){k:Nat}(hk:1<=k)(n:Nat)(hn:n<1000000)(H:Hp) :
  Ok (C k (.f 26) [iN n] H) fun r H'=>r=(bX n).v/\Fm No H H':=by
 obtain⟨j,rfl⟩:=aW hk
 rw[(hC j).zAo]
 unfold zAo zry
 have h3:n%3<3:=Nat.mod_lt _ (by omega)
 simp(disch:=first|omega|exact ti rfl|(simp only[np,nq];first|done|omega)) only[go_sem,reduceAdd,reduceLeDiff,at3]
 refine Ok.ret ⟨?_,by exact jW⟩
 unfold bX SS.v
 match n%3,h3 with
 |0,_|1,_|2,_=>rfl
theorem qz1(hC:bC C){k:Nat}(hk:1<=k){H:Hp}{v:AV}{L:List (List Nat)}(h:gJ H v L){n i:Nat}(hn:n<L.length) :
  Ok (C k (.f 60) [.agg [v],iN n,iN i] H) fun r H'=>r= .int .u8 (.ofNat (dW L n i))/\Fm No H H':=by
 obtain⟨j,rfl⟩:=aW hk
 rw[(hC j).zBi]
 unfold zBi zrf
 have f0:Fm No H (aR H (aD 0 [v])):=by exact jW
 obtain⟨b,o,w,e1,e2,e3,e4⟩:=(h.fm f0).at hn
 have el:=e4.len
 have ell:(qL L[n]).length=L[n].length:=by simp[qL]
 rw[ell]at el
 have hnd:L.getD n []=L[n]:=by rw[List.getD_eq_getElem?_getD,List.getElem?_eq_getElem hn];rfl
 by_cases hi:i<L[n].length
 ·obtain⟨b1,o1,g1,g2,g3⟩:=e4.at' i (by omega)
  have hv:(qL L[n])[i]'(by omega)= .int .u8 (.ofNat (dW L n i)):=by
   unfold dW
   rw[hnd,List.getD_eq_getElem?_getD,List.getElem?_eq_getElem hi]
   simp[qL]
  rw[hv]at g3
  simp(disch:=omega) only[go_sem,e1,e3,el,hi,g1,g3]
  exact Ok.ret ⟨rfl,f0⟩
 ·have hv:dW L n i=0:=by
   unfold dW
   simp_all
  simp(disch:=omega) only[go_sem,e1,e3,el,hi]
  rw[hv]
  exact Ok.ret ⟨rfl,f0⟩
def ruV(k:Nat)(r t:SS)(a:AV):AV:= .agg [.int .u8 (.ofNat k),r.v,t.v,a]
def sC(s:SS):List AV:=[s.v]
theorem q4o(H:Hp)(b o n a:Nat):eY H (.ptr b o) (.str n a)=storeAt H b o [.str n a] .undef:=id rfl
attribute [go_sem] q4o
theorem qfh(hC:bC C){k:Nat}(hk:1<=k)(neg:Bool)(H:Hp) :
  Ok (C k (.f 56) [.bool neg] H) fun r H'=>r=(if neg then ruV 2 (fC 0) sE .aA else ruV 1 sE sE .aA)/\Fm No H H':=by
 obtain⟨j,rfl⟩:=aW hk
 rw[(hC j).zBe]
 unfold zBe zrk
 cases neg
 ·simp only[go_sem]
  unfold zof
  simp(disch:=omega) only[go_sem,seval]
  exact Ok.ret ⟨rfl,by exact kI⟩
 ·simp(disch:=omega) only[go_sem,seval]
  exact Ok.ret ⟨rfl,by exact kI⟩
def qjl(n k:Nat)(neg:Bool):Bool:=decide (lvl k<lvl n)||(!neg&&decide (lvl k=lvl n))
theorem zfa(hC:bC C){k:Nat}(hk:2<=k)(n m:Nat)(hn:n<1000000)(hm:m<1000000)(neg:Bool)(H:Hp) :
  Ok (C k (.f 89) [iN n,iN m,.bool neg] H) fun r H'=>r= .bool (qjl n m neg)/\Fm No H H':=by
 obtain⟨j,rfl⟩:=aW hk
 rw[(hC j).zBt]
 refine Ok.ve (qdz hC (k:=j) (by omega) m hm H) ?_
 rintro _ H1 ⟨rfl,f1⟩
 refine Ok.ve (qdz hC (k:=j) (by omega) n hn H1) ?_
 rintro _ H2 ⟨rfl,f2⟩
 unfold qjl
 by_cases h:lvl m<lvl n
 ·have hd:(lvl m<lvl n)=True:=eq_true h
  simp only[go_sem,hd]
  exact Ok.ret ⟨by simp,f1.trans f2⟩
 ·cases neg
  ·simp only[go_sem,h]
   refine Ok.ve (qdz hC (k:=j) (by omega) m hm H2) ?_
   rintro _ H3 ⟨rfl,f3⟩
   refine Ok.ve (qdz hC (k:=j) (by omega) n hn H3) ?_
   rintro _ H4 ⟨rfl,f4⟩
   simp only[go_sem]
   exact Ok.ret ⟨by simp,((f1.trans f2).trans f3).trans f4⟩
  ·simp only[go_sem,h]
   exact Ok.ret ⟨by simp,f1.trans f2⟩
def rg(a b:Nat):List Nat:=(List.range b).drop a
theorem qiq{a i:Nat}(h:a<=i):rg a (i+1)=rg a i++[i]:=by
 unfold rg
 rw[List.range_succ,List.drop_append_of_le_length (by simpa using h)]
theorem qsj(a:Nat):rg a a=[]:=by unfold rg;rw[List.drop_eq_nil_of_le (by simp)]
theorem qfg{a b x:Nat}:x∈rg a b↔a<=x/\x<b:=by
 unfold rg
 rw[List.mem_iff_getElem]
 constructor
 ·rintro ⟨i,h,rfl⟩
  simp at h ⊢;omega
 ·intro h
  exact⟨x-a,by simp;omega,by simp;omega⟩
theorem qjd(a b:Nat):(rg a b).length=b-a:=by unfold rg;simp
def cmpL(m n:Nat)(neg:Bool):List SS:=((rg (n / 4*4) (min m (n / 4*4+4))).filter (qjl n · neg)).map fC
theorem zde(s:SS):(sC s).length=1:=rfl
structure vX(H:Hp)(b:Nat)(v:AV):Prop where
 lt:b<H.nx
 is:H.get b=aD 0 [v]
theorem vX.fm{H H':Hp}{b:Nat}{v:AV}(h:vX H b v)(f:Fm No H H'):vX H' b v:=⟨Nat.lt_of_lt_of_le h.lt f.nx,(f.keep h.lt).trans h.is⟩
theorem qe1(hC:bC C){j:Nat}(hj:2<=j){v:AV}{L:List (List Nat)}{n cb:Nat}{neg:Bool}(hn:n<100000){H1:Hp}{Q:AV->Hp->Prop}{q:AV->Hp->R1}(hv:gJ H1 v L)(hb:vX H1 cb v)
  (hq:∀ w H,Ac 1 sC H1 H w (cmpL (bF L) n neg)->Ok (q w H) Q) :
  ∀(k i:Nat) (w:AV) (H:Hp),n / 4*4<=i->i<=max (min (bF L) (n / 4*4+4)) (n / 4*4)->n / 4*4+4-i<k->Ac 1 sC H1 H w (((rg (n / 4*4) i).filter (qjl n · neg)).map fC) ->
   Ok (qqj (C j) q (iN n) (.bool neg) (.ptr cb 0) k w (iN i) H) Q
 |0,i,_,_,_,_,h,_=>by omega
 |k+1,i,w,H,hi,hi2,hk,hw=>by
  show Ok (qxy (C j) _ _ _ _ (qqj (C j) _ _ _ _ k) _ _ H) Q
  unfold qxy
  have hbH:=hb.fm hw.fm
  have e0:=hbH.is
  simp only[go_sem,e0]
  refine Ok.ve (qix hC (k:=j) (by omega) (hv.fm hw.fm)) ?_
  rintro _ H2 ⟨rfl,f2⟩
  have hw2:=hw.no f2
  by_cases hlt:i<bF L/\i<n / 4*4+4
  ·obtain⟨h1,h2⟩:=hlt
   simp(disch:=omega) only[go_sem,h1,h2]
   refine Ok.ve (zfa hC (k:=j) (by omega) n i (by omega) (by omega) neg H2) ?_
   rintro _ H3 ⟨rfl,f3⟩
   have hw3:=hw2.no f3
   have hr:=qiq hi
   cases hf:qjl n i neg
   ·simp only[go_sem]
    unfold qqk
    simp(disch:=omega) only[go_sem]
    refine qe1 hC hj hn hv hb hq k (i+1) w H3 (by omega) (by omega) (by omega) ?_
    simp_all
   ·simp only[go_sem]
    refine Ok.ve (quy hC (k:=j) (by omega) i (by omega) H3) ?_
    rintro _ H4 ⟨rfl,f4⟩
    have hw4:=hw3.no f4
    unfold SS.v
    simp(disch:=omega) only[go_sem,seval]
    have hl:(((rg (n / 4*4) i).filter (qjl n · neg)).map fC).length<=4:=by
     rw[List.length_map]
     refine Nat.le_trans (List.length_filter_le _ _) ?_
     rw[qjd];omega
    refine Ok.ve ((hw4.no ((Fm.refl No H4).push (aD 0 [.str (fC i).n (fC i).a]))).add (fC i) 16 rfl (by omega) (by omega)) ?_
    intro w5 H5 hw5
    unfold qqk
    simp(disch:=omega) only[go_sem]
    refine qe1 hC hj hn hv hb hq k (i+1) w5 H5 (by omega) (by omega) (by omega) ?_
    simp_all
  ·have he:rg (n / 4*4) i=rg (n / 4*4) (min (bF L) (n / 4*4+4)):=by
    by_cases h:n / 4*4<=min (bF L) (n / 4*4+4)
    ·congr 1;omega
    ·unfold rg
     rw[List.drop_eq_nil_of_le (by simp;omega),List.drop_eq_nil_of_le (by simp;omega)]
   rw[he]at hw2
   by_cases h1:i<bF L
   ·have h2:¬ i<n / 4*4+4:=fun h=>hlt ⟨h1,h⟩
    simp(disch:=omega) only[go_sem,h1,h2]
    exact hq w H2 hw2
   ·simp only[go_sem,h1]
    exact hq w H2 hw2
theorem zme(x:Nat)(h:x<256):qz0 .i64 (.int .u8 (.ofNat x))= .val (iN x):=by
 show R0.val (.int .i64 (sQ .i64 (.ofNat x)))=_
 rw[qfr _ (by omega)]
theorem zmn(n:Nat)(h:n<256):sQ .u8 (.ofNat n)= .ofNat n:=by
 show(bif Nat.blt n 256 then _ else _)=_
 rw[blt_eq,decide_eq_true h];rfl
theorem zwb(a b:Nat)(h:0<b)(h2:a<256):aB (aK .quo).f (.int .u8 (.ofNat a)) (.int .u8 (.ofNat b))= .val (.int .u8 (.ofNat (a / b))):=by
 show(bif pK (.ofNat b) 0 then R0.bad else .val (.int .u8 (sQ .u8 (Int.tdiv (.ofNat a) (.ofNat b)))))=_
 rw[qek,decide_eq_false (by simp only[Int.ofNat_eq_natCast];omega)]
 show R0.val (.int .u8 (sQ .u8 (.ofNat (a / b))))=_
 rw[zmn _ (Nat.lt_of_le_of_lt (Nat.div_le_self _ _) h2)]
theorem zvt(n j:Nat)(k:IntKind)(h:j<=8):qun (qhh .shr).f (.int .u8 (.ofNat n)) (.int k (.ofNat j))= .val (.int .u8 (.ofNat (n / 2 ^ j))):=by
 show(bif nO (.ofNat j) 0 then R0.bad else .val (.int .u8 ((Int.ofNat n).fdiv (2 ^ (min j 8)))))=_
 rw[yX,Nat.min_eq_left h]
 have h0:decide ((Int.ofNat j)<0)=false:=by simp
 show R0.val (.int .u8 ((Int.ofNat n).fdiv (2 ^ j)))=_
 congr 2
 have h2:((2:Int) ^ j)=Int.ofNat (2 ^ j):=by simp
 show Int.fdiv (n:Int) ((2 ^ j:Nat):Int)=((n / 2 ^ j:Nat):Int)
 rw[Int.fdiv_eq_ediv_of_nonneg _ (Int.natCast_nonneg _)]
 rfl
attribute [go_sem] zme zwb zvt
theorem q39{H:Hp}{v:AV}{L:List (List Nat)}(h:gJ H v L)(n i:Nat):dW L n i<256:=by
 unfold dW
 rw[List.getD_eq_getElem?_getD,List.getD_eq_getElem?_getD]
 cases h1:L[n]? with
 |none=>simp
 |some l =>
  simp only[Option.getD_some]
  cases h2:l[i]? with
  |none=>simp
  |some x=>exact h.lt l (List.mem_of_getElem? h1) x (List.mem_of_getElem? h2)
structure At(m n:Nat)(neg:Bool):Prop where
 lt:n<m
 le:m<=12
 up:neg=true->0<lvl n
theorem aR2(q:Nat):lvl (q*4)=0:=by unfold lvl;rw[Nat.mul_mod_left];rfl
theorem qtj{m n:Nat}{neg:Bool}(h:At m n neg):0<(cmpL m n neg).length:=by
 unfold cmpL
 rw[List.length_map]
 refine List.length_pos_of_mem (a:=n / 4*4) ?_
 rw[List.mem_filter,qfg]
 have:=h.lt
 refine⟨by omega,?_⟩
 unfold qjl
 rw[aR2]
 cases neg with
 |true=>simp[h.up rfl]
 |false=>simp;omega
theorem Rs.at1{α:Type}{f:α->List AV}{g:α->AV}(hf:∀ x,f x=[g x]){H:Hp}{v:AV}{l:List α}(h:Rs 1 f H v l){i:Nat}(hi:i<l.length) :
  ∃b o,aL 1 v (iN i)= .val (.ptr b o)/\b<H.nx/\bT (H.get b) o= .val (g l[i]):=by
 obtain⟨b,o,h1,h2,_,h3,h4⟩:=h.at' i hi
 refine⟨b,o,h1,h2,?_⟩
 simp_all
theorem qmw(hC:bC C){k:Nat}(hk:4<=k){v:AV}{L:List (List Nat)}{n c:Nat}{neg:Bool}{H:Hp}(hv:gJ H v L)(hA:At (bF L) n neg)(hc:c<256) :
  Ok (C k (.f 57) [.agg [v],iN n,.int .u8 (.ofNat c),.bool neg] H) fun r H' =>
   r=ruV 2 ((cmpL (bF L) n neg).getD (c%(cmpL (bF L) n neg).length) sE) sE .aA/\Fm No H H':=by
 obtain⟨j,rfl⟩:=aW hk
 rw[(hC j).zBf]
 unfold zBf zrj
 have hp:=qtj hA
 have hn:=hA.lt
 have hle:=hA.le
 simp(disch:=omega) only[go_sem]
 unfold q9p
 rw[dI]
 have f1:Fm No H (aR (aR H (aD 0 [v])) (aD 0 [.int .u8 (.ofNat 0),.str 0 0,.str 0 0,.aA])):=by exact yN
 have f1':Fm No (aR H (aD 0 [v])) (aR (aR H (aD 0 [v])) (aD 0 [.int .u8 (.ofNat 0),.str 0 0,.str 0 0,.aA])):=by exact jW
 have hcb:vX (aR H (aD 0 [v])) H.nx v:=⟨by simp only[np];omega,by simp(disch:=omega) only[go_sem]⟩
 refine qe1 hC (by omega) (by omega) (hv.fm f1) (hcb.fm f1') (fun w H2 hw=> ?_) cK (n / 4*4) .aA _ (Nat.le_refl _) (by omega) (by rw[dK];omega) ?_
 ·unfold q9o
  have hl:=hw.cO
  have f2:=hw.fm
  have hmod:c%(cmpL (bF L) n neg).length<(cmpL (bF L) n neg).length:=Nat.mod_lt _ hp
  obtain⟨b,o,e1,e2,e3⟩:=(hw.rs zde).at1 (g:=SS.v) (fun _=>rfl) hmod
  have k2:H2.get (H.nx+1)=aD 0 [.int .u8 (.ofNat 0),.str 0 0,.str 0 0,.aA]:=(f2.keep (by simp only[np];omega)).trans (by simp(disch:=first|omega|exact ti rfl|(simp only[np,nq];first|done|omega)) only[go_sem])
  unfold SS.v at e3
  have ex:=f2.nx
  simp(disch:=omega) only[go_sem,seval,hl,e1,e3,k2]
  refine Ok.ret ⟨?_,(f1.trans f2).aM _ _ (by omega)⟩
  rw[List.getD_eq_getElem?_getD,List.getElem?_eq_getElem hmod];rfl
 ·rw[qsj]
  exact Ac.nil _ _ (Fm.refl _ _)
structure kF where
 sp:SS
 rl:SS
 deriving DecidableEq
def tC(t:kF):List AV:=[t.sp.v,t.rl.v]
theorem qhe(t:kF):(tC t).length=2:=rfl
def nS(m:Nat):Nat:=min 3 ((m+3) / 4)
def rG(c i:Nat):List kF:=⟨sU,sE⟩::((rg 0 i).filter fun i=>decide (c / 2 ^ i%2=1)).map fun i=>⟨bX i,sE⟩
def pF(m n:Nat):List kF:=((rg 0 m).filter fun k=>decide (lvl k<=lvl n)).map fun k=>⟨bX (k / 4),fC k⟩
def kH(L:List (List Nat))(n:Nat):List kF :=
 rG (dW L n 0) (nS (bF L))++if dW L n 1%2=1 then[(pF (bF L) n).getD (dW L n 1 / 2%(pF (bF L) n).length) ⟨sE,sE⟩]else[]
theorem Ac.one{α:Type}{z:Nat}{f:α->List AV}{H0 H:Hp}(x:α)(hx:(f x).length=z)(h:Fm No H0 H):Ac z f H0 (aR H (aD 0 (f x))) (.sl H.nx 0 1 1 true) [x] :=
 ⟨⟨by simp[hx],.inr ⟨_,_,_,_,_,rfl,kL _ _,Nat.zero_le _,by simp,.inl rfl,by rw[np];omega⟩⟩,h.push _,fun b hb=>by obtain⟨_,_,_,_,h'⟩:=hb;cases h';exact h.nx⟩
theorem qgu(hC:bC C){j:Nat}(hj:2<=j){v:AV}{L:List (List Nat)}{n cb:Nat}(hn:n<100000){H1:Hp}{Q:AV->Hp->Prop}{q:AV->Hp->R1}(hv:gJ H1 v L)(hb:vX H1 cb v)
  (hq:∀ w H,Ac 2 tC H1 H w (pF (bF L) n)->Ok (q w H) Q) :
  ∀(k i:Nat) (w:AV) (H:Hp),i<=bF L->bF L-i<k->Ac 2 tC H1 H w (pF i n) ->
   Ok (qq3 (C j) q (iN n) (.ptr cb 0) k w (iN i) H) Q
 |0,i,_,_,_,h,_=>by omega
 |k+1,i,w,H,hi,hk,hw=>by
  show Ok (qye (C j) _ _ _ (qq3 (C j) _ _ _ k) _ _ H) Q
  unfold qye
  have hm:bF L<=12:=Nat.min_le_right _ _
  have hbH:=hb.fm hw.fm
  have e0:=hbH.is
  simp only[go_sem,e0]
  refine Ok.ve (qix hC (k:=j) (by omega) (hv.fm hw.fm)) ?_
  rintro _ H2 ⟨rfl,f2⟩
  have hw2:=hw.no f2
  by_cases hlt:i<bF L
  ·simp only[go_sem,hlt]
   refine Ok.ve (qdz hC (k:=j) (by omega) i (by omega) H2) ?_
   rintro _ H3 ⟨rfl,f3⟩
   refine Ok.ve (qdz hC (k:=j) (by omega) n (by omega) H3) ?_
   rintro _ H4 ⟨rfl,f4⟩
   have hw4:=(hw2.no f3).no f4
   have hr:rg 0 (i+1)=rg 0 i++[i]:=qiq (Nat.zero_le _)
   by_cases hf:lvl i<=lvl n
   ·simp(disch:=omega) only[go_sem,hf]
    refine Ok.ve (qju hC (k:=j) (by omega) (i / 4) (by omega) H4) ?_
    rintro _ H5 ⟨rfl,f5⟩
    refine Ok.ve (quy hC (k:=j) (by omega) i (by omega) H5) ?_
    rintro _ H6 ⟨rfl,f6⟩
    have hw6:=(hw4.no f5).no f6
    unfold SS.v
    simp(disch:=omega) only[go_sem,seval]
    have hl:(pF i n).length<=12:=by
     unfold pF
     rw[List.length_map]
     refine Nat.le_trans (List.length_filter_le _ _) ?_
     rw[qjd];omega
    refine Ok.ve ((hw6.no ((Fm.refl No H6).push (aD 0 (tC ⟨bX (i / 4),fC i⟩)))).add ⟨bX (i / 4),fC i⟩ 32 rfl (by omega) (by omega)) ?_
    intro w7 H7 hw7
    unfold qq6
    simp(disch:=omega) only[go_sem]
    refine qgu hC hj hn hv hb hq k (i+1) w7 H7 (by omega) (by omega) ?_
    unfold pF
    rw[hr,List.filter_append,List.filter_cons,decide_eq_true hf]
    simpa [pF] using hw7
   ·simp only[go_sem,hf]
    unfold qq6
    simp(disch:=omega) only[go_sem]
    refine qgu hC hj hn hv hb hq k (i+1) w H4 (by omega) (by omega) ?_
    unfold pF
    rw[hr,List.filter_append,List.filter_cons,decide_eq_false hf]
    simpa [pF] using hw4
  ·have he:i=bF L:=by omega
   simp only[go_sem,hlt]
   simp_all
theorem qy0(c i:Nat):(rG c i).length<=i+1:=by
 unfold rG
 rw[List.length_cons,List.length_map]
 have:=List.length_filter_le (fun i=>decide (c / 2 ^ i%2=1)) (rg 0 i)
 rw[qjd]at this;omega
theorem qr8{m n:Nat}(h:n<m):0<(pF m n).length:=by
 unfold pF
 rw[List.length_map]
 refine List.length_pos_of_mem (a:=n) ?_
 rw[List.mem_filter,qfg]
 simp_all
theorem Ac.trans{α:Type}{z:Nat}{f:α->List AV}{H0 H1 H:Hp}{v:AV}{l:List α}(a:Fm No H0 H1)(h:Ac z f H1 H v l):Ac z f H0 H v l:=⟨h.gl,a.trans h.fm,fun b hb=>Nat.le_trans a.nx (h.nw b hb)⟩
theorem Rs.atN{α:Type}{z:Nat}{f:α->List AV}{H:Hp}{v:AV}{l:List α}(h:Rs z f H v l){i:Nat}(hi:i<l.length) :
  ∃b o,aL z v (iN i)= .val (.ptr b o)/\b<H.nx/\iZ (H.get b) o z=some (f l[i]):=by
 obtain⟨b,o,h1,h2,_,h3,_⟩:=h.at' i hi
 exact⟨b,o,h1,h2,h3⟩
theorem zcq(hC:bC C){j:Nat}(hj:2<=j){v:AV}{L:List (List Nat)}{n cb:Nat}(hn:n<bF L){H0 H:Hp}(hv:gJ H v L)(hb:vX H cb v){w:AV}
  (hw:Ac 2 tC H0 H w (rG (dW L n 0) (nS (bF L)))) :
  Ok (qq5 (C j) (iN n) (.ptr cb 0) w H) fun r H'=>Ac 2 tC H0 H' r (kH L n):=by
 have hm:bF L<=12:=Nat.min_le_right _ _
 have hnL:n<L.length:=Nat.lt_of_lt_of_le hn (Nat.min_le_left _ _)
 unfold qq5
 have e0:=hb.is
 simp only[go_sem,e0]
 refine Ok.ve (qz1 hC (k:=j) (by omega) hv hnL) ?_
 rintro _ H1 ⟨rfl,f1⟩
 have hw1:=hw.no f1
 unfold kH
 have hc:=q39 hv n 1
 by_cases h1:dW L n 1%2=1
 ·rw[if_pos h1]
  simp(disch:=omega) only[go_sem,h1]
  unfold zam
  rw[dI]
  refine qgu hC hj (by omega) (hv.fm f1) (hb.fm f1) (fun u H2 hu=> ?_) cK 0 .aA H1 (Nat.zero_le _) (by rw[dK];omega) (Ac.nil _ _ (Fm.refl _ _))
  unfold qyc
  have f2:=hu.fm
  have e2:=((hb.fm f1).fm f2).is
  simp only[go_sem,e2]
  refine Ok.ve (qz1 hC (k:=j) (by omega) ((hv.fm f1).fm f2) hnL) ?_
  rintro _ H3 ⟨rfl,f3⟩
  have hu3:=hu.no f3
  have hl:=hu3.cO
  have hmod:dW L n 1 / 2%(pF (bF L) n).length<(pF (bF L) n).length:=Nat.mod_lt _ (qr8 hn)
  obtain⟨b,o,e1,_,e3⟩:=(hu3.rs qhe).atN hmod
  have hx:(pF (bF L) n).getD (dW L n 1 / 2%(pF (bF L) n).length) ⟨sE,sE⟩=(pF (bF L) n)[dW L n 1 / 2%(pF (bF L) n).length]:=by
   simp_all
  rw[hx]
  have hlen:=qy0 (dW L n 0) (nS (bF L))
  have xI:nS (bF L)<=3:=Nat.min_le_left _ _
  unfold tC at e3
  simp(disch:=first|omega|exact ti rfl|(simp only[np,nq];first|done|omega)) only[go_sem,reduceAdd,reduceMul,reduceLeDiff,hl,e1,e3]
  refine Ok.ve ((((hw1.no f2).no f3).no ((Fm.refl No H3).push (aD 0 (tC (pF (bF L) n)[dW L n 1 / 2%(pF (bF L) n).length])))).add _ 32 rfl (by omega) (by omega)) ?_
  intro w4 H4 hw4
  exact Ok.ret hw4
 ·rw[if_neg h1,List.append_nil]
  simp(disch:=omega) only[go_sem,h1]
  exact Ok.ret hw1
theorem qgv(hC:bC C){j:Nat}(hj:2<=j){v:AV}{L:List (List Nat)}{n cb:Nat}(hn:n<bF L){H0:Hp}{Q:AV->Hp->Prop}{q:AV->Hp->R1}(hv:gJ H0 v L)(hb:vX H0 cb v)
  (hq:∀ w H,Ac 2 tC H0 H w (rG (dW L n 0) (nS (bF L)))->Ok (q w H) Q) :
  ∀(k i:Nat) (w:AV) (H:Hp),i<=nS (bF L)->3-i<k->Ac 2 tC H0 H w (rG (dW L n 0) i) ->
   Ok (qq2 (C j) q (iN n) (.ptr cb 0) k w (iN i) H) Q
 |0,i,_,_,_,h,_=>by omega
 |k+1,i,w,H,hi,hk,hw=>by
  show Ok (qyd (C j) _ _ _ (qq2 (C j) _ _ _ k) _ _ H) Q
  unfold qyd
  have hm:bF L<=12:=Nat.min_le_right _ _
  have hnL:n<L.length:=Nat.lt_of_lt_of_le hn (Nat.min_le_left _ _)
  have xI:nS (bF L)<=3:=Nat.min_le_left _ _
  have e0:=(hb.fm hw.fm).is
  simp(disch:=omega) only[go_sem,e0]
  refine Ok.ve (qix hC (k:=j) (by omega) (hv.fm hw.fm)) ?_
  rintro _ H2 ⟨rfl,f2⟩
  have hw2:=hw.no f2
  by_cases hlt:i<nS (bF L)
  ·have h1:4*i<bF L:=by unfold nS at hlt;omega
   have h2:i<3:=by omega
   simp only[go_sem,h1,h2]
   unfold zak
   have e2:=(hb.fm hw2.fm).is
   simp only[go_sem,e2]
   refine Ok.ve (qz1 hC (k:=j) (by omega) (hv.fm hw2.fm) hnL) ?_
   rintro _ H3 ⟨rfl,f3⟩
   have hw3:=hw2.no f3
   have hr:rg 0 (i+1)=rg 0 i++[i]:=qiq (Nat.zero_le _)
   by_cases hf:dW L n 0 / 2 ^ i%2=1
   ·simp(disch:=omega) only[go_sem,hf]
    refine Ok.ve (qju hC (k:=j) (by omega) i (by omega) H3) ?_
    rintro _ H4 ⟨rfl,f4⟩
    have hw4:=hw3.no f4
    unfold SS.v
    simp(disch:=omega) only[go_sem,seval]
    have hl:=qy0 (dW L n 0) i
    refine Ok.ve ((hw4.no ((Fm.refl No H4).push (aD 0 (tC ⟨bX i,sE⟩)))).add ⟨bX i,sE⟩ 32 rfl (by omega) (by omega)) ?_
    intro w5 H5 hw5
    unfold qq4
    simp(disch:=omega) only[go_sem]
    refine qgv hC hj hn hv hb hq k (i+1) w5 H5 (by omega) (by omega) ?_
    have:rG (dW L n 0) (i+1)=rG (dW L n 0) i++[⟨bX i,sE⟩]:=by
     unfold rG
     simp_all
    simp_all
   ·simp(disch:=first|omega|exact ti rfl|(simp only[np,nq];first|done|omega)) only[go_sem,reduceAdd,reduceLeDiff,hf]
    unfold qq4
    simp(disch:=omega) only[go_sem]
    refine qgv hC hj hn hv hb hq k (i+1) w H3 (by omega) (by omega) ?_
    have:rG (dW L n 0) (i+1)=rG (dW L n 0) i:=by
     unfold rG
     simp_all
    simp_all
  ·have he:i=nS (bF L):=by omega
   rw[he]at hw2
   by_cases h1:4*i<bF L
   ·have h2:¬ i<3:=by unfold nS at hlt;omega
    omega
   ·simp only[go_sem,h1]
    simp_all
theorem q10(hC:bC C){k:Nat}(hk:4<=k){v:AV}{L:List (List Nat)}{n:Nat}{H:Hp}(hv:gJ H v L)(hn:n<bF L) :
  Ok (C k (.f 29) [.agg [v],iN n] H) fun r H'=>Ac 2 tC H H' r (kH L n):=by
 obtain⟨j,rfl⟩:=aW hk
 rw[(hC j).zAr]
 unfold zAr zrw
 simp only[go_sem]
 unfold zal
 rw[dI]
 have hcb:vX (aR H (aD 0 [v])) H.nx v:=⟨by simp only[np];omega,by simp(disch:=omega) only[go_sem]⟩
 have fa:Fm No H (aR H (aD 0 [v])):=by exact jW
 have h1:=Ac.one (z:=2) (f:=tC) (H0:=aR H (aD 0 [v])) ⟨sU,sE⟩ rfl (Fm.refl _ _)
 refine qgv hC (by omega) hn (hv.fm fa) hcb (fun w H2 hw=> ?_) cK 0 _ _ (Nat.zero_le _) (by rw[dK];omega) h1
 refine(zcq hC (by omega) hn ((hv.fm fa).fm hw.fm) (hcb.fm hw.fm) (hw.trans (H0:=H) fa)).mono fun r H' h=>h
theorem zxl(n a m b:Nat):gY (oI .eql).f (.str n a) (.str m b)= .val (.bool (decide (n=m/\a=b))):=by
 show R0.val (.bool (Nat.beq n m&&Nat.beq a b))=_
 rw[beq_eq,beq_eq,Bool.decide_and]
theorem zwq(n a m b:Nat):gY (oI .neq).f (.str n a) (.str m b)= .val (.bool (!decide (n=m/\a=b))):=by
 show R0.val (.bool (!(Nat.beq n m&&Nat.beq a b)))=_
 rw[beq_eq,beq_eq,Bool.decide_and]
theorem zt4(n a:Nat):nP 64 (.str n a) (.str n a)=true:=by
 show(Nat.beq n n&&Nat.beq a a)=true
 simp
attribute [go_sem] zxl zwq zt4
theorem nI(s t:SS):(s=t)↔(s.n=t.n/\s.a=t.a):=by
 cases s;cases t;simp
structure ArS where
 rl:SS
 to:SS
 deriving DecidableEq
def arC(x:ArS):List AV:=[.int .u8 (.ofNat 3),x.rl.v,x.to.v,.aA]
theorem zux(t:ArS):(arC t).length=4:=rfl
def arP(n:Nat)(neg:Bool)(t:kF)(j:Nat):Bool:=decide (t.rl=sE)&&decide (t.sp=bX (j / 4))&&qjl n j neg
def uT(n:Nat)(neg:Bool)(k:Nat)(t:kF)(m:Nat):List ArS:=((rg 0 m).filter (arP n neg t)).map fun j=>⟨fC k,fC j⟩
def arK(L:List (List Nat))(n:Nat)(neg:Bool)(k:Nat):List ArS:=(kH L k).flatMap fun t=>uT n neg k t (bF L)
def lW(L:List (List Nat))(n:Nat)(neg:Bool)(i:Nat):List ArS:=(rg (n / 4*4) i).flatMap (arK L n neg)
theorem qz5(n:Nat)(neg:Bool)(k:Nat)(t:kF)(m:Nat):(uT n neg k t m).length<=m:=by
 unfold uT
 rw[List.length_map]
 refine Nat.le_trans (List.length_filter_le _ _) ?_
 rw[qjd];omega
theorem zms(n:Nat)(neg:Bool)(k:Nat)(t:kF)(i:Nat):uT n neg k t (i+1)=uT n neg k t i++if arP n neg t i then[⟨fC k,fC i⟩]else[]:=by
 unfold uT
 rw[qiq (Nat.zero_le _),List.filter_append,List.filter_cons]
 cases arP n neg t i<;>simp
theorem qcu{α β:Type}(g:α->List β)(c:Nat)(h:∀ x,(g x).length<=c):∀ l:List α,(l.flatMap g).length<=c*l.length
 | []=>by simp
 |a::l=>by
  rw[List.flatMap_cons,List.length_append,List.length_cons,Nat.mul_add,Nat.mul_one]
  have:=qcu g c h l
  have:=h a
  omega
theorem qdp(hC:bC C){j:Nat}(hj:3<=j){v:AV}{L:List (List Nat)}{n cb kk:Nat}{neg:Bool}(hn:n<100000)(hkk:kk<100000){S:Nat->Prop}{H0:Hp}{Q:AV->Hp->Prop}{q:AV->Hp->R1}(hv:∀ H',Fm S H0 H'->gJ H' v L)(hb:∀ H',Fm S H0 H'->vX H' cb v)
  {ts:List kF} {tv:AV} (ht:∀ H',Fm S H0 H'->Rs 2 tC H' tv ts) {x:Nat} (hx:x<ts.length) {A:List ArS} (hA:A.length<=1000000)
  (hq:∀ w H,mP 4 arC S H0 H w (A++uT n neg kk ts[x] (bF L))->Ok (q w H) Q) :
  ∀(k i:Nat) (w:AV) (H:Hp),i<=bF L->bF L-i<k->mP 4 arC S H0 H w (A++uT n neg kk ts[x] i) ->
   Ok (qqh (C j) q (iN n) (.bool neg) (.ptr cb 0) (iN kk) tv (iN x) k w (iN i) H) Q
 |0,i,_,_,_,h,_=>by omega
 |k+1,i,w,H,hi,hk,hw=>by
  show Ok (qxv (C j) _ _ _ _ _ _ _ (qqh (C j) _ _ _ _ _ _ _ k) _ _ H) Q
  unfold qxv
  have hm:bF L<=12:=Nat.min_le_right _ _
  have e0:=(hb _ hw.fm).is
  simp only[go_sem,e0]
  refine Ok.ve (qix hC (k:=j) (by omega) (hv _ hw.fm)) ?_
  rintro _ H2 ⟨rfl,f2⟩
  have hw2:=hw.no f2
  by_cases hlt:i<bF L
  ·simp only[go_sem,hlt]
   unfold q9k
   have ht2:=ht _ hw2.fm
   obtain⟨b,o,e1,e2,_,e3,e4⟩:=ht2.at' x hx
   have r0:bT (H2.get b) o= .val (.str ts[x].sp.n ts[x].sp.a):=e4 0 (by rw[qhe];omega)
   have r1:bT (H2.get b) (o+1)= .val (.str ts[x].rl.n ts[x].rl.a):=e4 1 (by rw[qhe];omega)
   have hsucc:=zms n neg kk ts[x] i
   have hlen:=qz5 n neg kk ts[x] i
   by_cases h1:ts[x].rl.n=0/\ts[x].rl.a=0
   ·have h1':ts[x].rl=sE:=(nI _ _).2 h1
    have oH:=eq_true h1
    simp(disch:=omega) only[go_sem,e1,r0,r1,oH]
    refine Ok.lX (qju hC (k:=j) (by omega) (i / 4) (by omega) H2) ?_
    rintro _ H3 ⟨rfl,f3⟩
    have r0':bT (H3.get b) o= .val (.str ts[x].sp.n ts[x].sp.a):=by rw[f3.keep e2];exact r0
    have r1':bT (H3.get b) (o+1)= .val (.str ts[x].rl.n ts[x].rl.a):=by rw[f3.keep e2];exact r1
    have hw3:=hw2.no f3
    unfold SS.v
    by_cases h2:ts[x].sp.n=(bX (i / 4)).n/\ts[x].sp.a=(bX (i / 4)).a
    ·have h2':ts[x].sp=bX (i / 4):=(nI _ _).2 h2
     have h2t:=eq_true h2
     simp only[go_sem,r0',h2t]
     refine Ok.lX (zfa hC (k:=j) (by omega) n i (by omega) (by omega) neg H3) ?_
     rintro _ H4 ⟨rfl,f4⟩
     have bQ4:bT (H4.get b) o= .val (.str ts[x].sp.n ts[x].sp.a):=by rw[f4.keep (Nat.lt_of_lt_of_le e2 f3.nx)];exact r0'
     have bLT:bT (H4.get b) (o+1)= .val (.str ts[x].rl.n ts[x].rl.a):=by rw[f4.keep (Nat.lt_of_lt_of_le e2 f3.nx)];exact r1'
     have hw4:=hw3.no f4
     have hap:arP n neg ts[x] i=qjl n i neg:=by unfold arP;rw[decide_eq_true h1',decide_eq_true h2'];simp
     rw[hap]at hsucc
     cases hf:qjl n i neg
     ·rw[hf]at hsucc
      unfold qh8
      simp(disch:=omega) only[go_sem]
      refine qdp hC hj hn hkk hv hb ht hx hA hq k (i+1) w H4 (by omega) (by omega) ?_
      simp_all
     ·rw[hf]at hsucc
      simp only[go_sem]
      refine Ok.ve (quy hC (k:=j) (by omega) kk (by omega) H4) ?_
      rintro _ H5 ⟨rfl,f5⟩
      refine Ok.ve (quy hC (k:=j) (by omega) i (by omega) H5) ?_
      rintro _ H6 ⟨rfl,f6⟩
      have hw6:=(hw4.no f5).no f6
      unfold SS.v
      simp(disch:=omega) only[go_sem,seval]
      have hll:(A++uT n neg kk ts[x] i).length<=1000000+i:=by rw[List.length_append];omega
      refine Ok.ve ((hw6.no ((Fm.refl No H6).push (aD 0 (arC ⟨fC kk,fC i⟩)))).add ⟨fC kk,fC i⟩ 64 rfl (by omega) (by omega)) ?_
      intro w7 H7 hw7
      unfold qh8
      simp(disch:=omega) only[go_sem]
      refine qdp hC hj hn hkk hv hb ht hx hA hq k (i+1) w7 H7 (by omega) (by omega) ?_
      simp_all
    ·have h2':¬ ts[x].sp=bX (i / 4):=fun h=>h2 ((nI _ _).1 h)
     have hap:arP n neg ts[x] i=false:=by unfold arP;rw[decide_eq_false h2'];simp
     rw[hap]at hsucc
     simp only[go_sem,r0',h2]
     unfold qh8
     simp(disch:=omega) only[go_sem]
     refine qdp hC hj hn hkk hv hb ht hx hA hq k (i+1) w H3 (by omega) (by omega) ?_
     simp_all
   ·have h1':¬ ts[x].rl=sE:=fun h=>h1 ((nI _ _).1 h)
    have hap:arP n neg ts[x] i=false:=by unfold arP;rw[decide_eq_false h1'];simp
    rw[hap]at hsucc
    simp only[go_sem,e1,r1,h1]
    unfold qh8
    simp(disch:=omega) only[go_sem]
    refine qdp hC hj hn hkk hv hb ht hx hA hq k (i+1) w H2 (by omega) (by omega) ?_
    simp_all
  ·have he:i=bF L:=by omega
   simp only[go_sem,hlt]
   simp_all
theorem qfu(L:List (List Nat))(n:Nat):(kH L n).length<=5:=by
 unfold kH
 have:=qy0 (dW L n 0) (nS (bF L))
 have h3:nS (bF L)<=3:=Nat.min_le_left _ _
 split<;>simp<;>omega
theorem qm2(hC:bC C){j:Nat}(hj:3<=j){v:AV}{L:List (List Nat)}{n cb kk:Nat}{neg:Bool}(hn:n<100000)(hkk:kk<100000){S:Nat->Prop}{H0:Hp}{Q:AV->Hp->Prop}{q:AV->Hp->R1}(hv:∀ H',Fm S H0 H'->gJ H' v L)(hb:∀ H',Fm S H0 H'->vX H' cb v)
  {ts:List kF} {tv:AV} (ht:∀ H',Fm S H0 H'->Rs 2 tC H' tv ts) (hts:ts.length<=5) {A:List ArS} (hA:A.length<=900000)
  (hq:∀ w H,mP 4 arC S H0 H w (A++ts.flatMap fun t=>uT n neg kk t (bF L))->Ok (q w H) Q) :
  ∀(k i:Nat) (w:AV) (H:Hp),i<=ts.length->ts.length-i<k->mP 4 arC S H0 H w (A++(ts.take i).flatMap fun t=>uT n neg kk t (bF L)) ->
   Ok (qkn (C j) q (iN n) (.bool neg) (.ptr cb 0) (iN kk) tv k w (iN i) H) Q
 |0,i,_,_,_,h,_=>by omega
 |k+1,i,w,H,hi,hk,hw=>by
  show Ok (qxw (C j) _ _ _ _ _ _ (qkn (C j) _ _ _ _ _ _ k) _ _ H) Q
  unfold qxw
  have hm:bF L<=12:=Nat.min_le_right _ _
  have hl:=(ht _ hw.fm).len
  by_cases hlt:i<ts.length
  ·simp only[go_sem,hl,hlt]
   unfold q9j q9l
   rw[dI]
   have hlen:(A++(ts.take i).flatMap fun t=>uT n neg kk t (bF L)).length<=1000000:=by
    rw[List.length_append]
    have h1:=qcu (fun t=>uT n neg kk t (bF L)) 12 (fun t=>Nat.le_trans (qz5 n neg kk t _) hm) (ts.take i)
    have h2:(ts.take i).length<=5:=by rw[List.length_take];omega
    omega
   refine qdp hC hj hn hkk hv hb ht hlt hlen (fun w2 H2 hw2=> ?_) cK 0 w H (Nat.zero_le _) (by rw[dK];omega) ?_
   ·unfold qxt
    simp(disch:=omega) only[go_sem]
    refine qm2 hC hj hn hkk hv hb ht hts hA hq k (i+1) w2 H2 (by omega) (by omega) ?_
    rw[List.take_succ_eq_append_getElem hlt,List.flatMap_append,List.flatMap_singleton,<-List.append_assoc]
    exact hw2
   ·have:uT n neg kk ts[i] 0=[]:=by unfold uT;rw[qsj];rfl
    simp_all
  ·have he:i=ts.length:=by omega
   simp only[go_sem,hl,hlt]
   simp_all
theorem zmq(L:List (List Nat))(n:Nat)(neg:Bool)(i:Nat)(h:i<=12):(lW L n neg i).length<=60*12:=by
 unfold lW
 have hm:bF L<=12:=Nat.min_le_right _ _
 have h1:=qcu (arK L n neg) 60 (fun k=>by
  unfold arK
  have h1:=qcu (fun t=>uT n neg k t (bF L)) 12 (fun t=>Nat.le_trans (qz5 n neg k t _) hm) (kH L k)
  have h2:=qfu L k
  omega) (rg (n / 4*4) i)
 have h2:=qjd (n / 4*4) i
 omega
theorem qpq(hC:bC C){j:Nat}(hj:4<=j){v:AV}{L:List (List Nat)}{n cb:Nat}{neg:Bool}(hn:n<100000){H1:Hp}{Q:AV->Hp->Prop}{q:AV->Hp->R1}(hv:gJ H1 v L)(hb:vX H1 cb v)
  (hq:∀ w H,Ac 4 arC H1 H w (lW L n neg (min (bF L) (n / 4*4+4)))->Ok (q w H) Q) :
  ∀(k i:Nat) (w:AV) (H:Hp),n / 4*4<=i->i<=max (min (bF L) (n / 4*4+4)) (n / 4*4)->n / 4*4+4-i<k->Ac 4 arC H1 H w (lW L n neg i) ->
   Ok (qko (C j) q (iN n) (.bool neg) (.ptr cb 0) k w (iN i) H) Q
 |0,i,_,_,_,_,h,_=>by omega
 |k+1,i,w,H,hi,hi2,hk,hw=>by
  show Ok (qxx (C j) _ _ _ _ (qko (C j) _ _ _ _ k) _ _ H) Q
  unfold qxx
  have hm:bF L<=12:=Nat.min_le_right _ _
  have e0:=(hb.fm hw.fm).is
  simp only[go_sem,e0]
  refine Ok.ve (qix hC (k:=j) (by omega) (hv.fm hw.fm)) ?_
  rintro _ H2 ⟨rfl,f2⟩
  have hw2:=hw.no f2
  by_cases hlt:i<bF L/\i<n / 4*4+4
  ·obtain⟨h1,h2⟩:=hlt
   simp(disch:=omega) only[go_sem,h1,h2]
   unfold q9i
   have e2:=(hb.fm hw2.fm).is
   simp only[go_sem,seval,e2]
   refine Ok.ve (q10 hC (k:=j) (by omega) (hv.fm hw2.fm) h1) ?_
   intro tv H3 ht
   have hw3:=hw2.no ht.fm
   unfold q9m
   rw[dI]
   have hAl:=zmq L n neg i (by omega)
   have dj:∀ b,In tv b->¬ In w b:=fun b h1 h2=>by
    have:=ht.nw b h1
    have:=hw2.gl.lt h2
    omega
   refine qm2 (A:=lW L n neg i) (S:=In w) hC (by omega) hn (by omega) (fun H' f=>hv.fm (hw3.old f)) (fun H' f=>hb.fm (hw3.old f)) (fun H' f=>(ht.rs qhe).iD f dj) (qfu L i) (by omega) (fun w4 H4 hw4=> ?_) cK 0 w H3 (Nat.zero_le _) (by have:=qfu L i;rw[dK];omega) ?_
   ·unfold qxu
    simp(disch:=omega) only[go_sem]
    refine qpq hC hj hn hv hb hq k (i+1) w4 H4 (by omega) (by omega) (by omega) ?_
    have:lW L n neg (i+1)=lW L n neg i++arK L n neg i:=by
     unfold lW
     rw[qiq hi,List.flatMap_append,List.flatMap_singleton]
    rw[this]
    exact hw3.fin hw4
   ·rw[List.take_zero,List.flatMap_nil,List.append_nil]
    exact hw3.start
  ·have he:rg (n / 4*4) i=rg (n / 4*4) (min (bF L) (n / 4*4+4)):=by
    by_cases h:n / 4*4<=min (bF L) (n / 4*4+4)
    ·congr 1;omega
    ·unfold rg
     rw[List.drop_eq_nil_of_le (by simp;omega),List.drop_eq_nil_of_le (by simp;omega)]
   unfold lW at hw2
   rw[he]at hw2
   by_cases h1:i<bF L
   ·have h2:¬ i<n / 4*4+4:=fun h=>hlt ⟨h1,h⟩
    simp(disch:=omega) only[go_sem,h1,h2]
    exact hq w H2 hw2
   ·simp only[go_sem,h1]
    exact hq w H2 hw2
def kU(L:List (List Nat))(n:Nat)(neg:Bool):List ArS:=lW L n neg (min (bF L) (n / 4*4+4))
def aI8(neg:Bool):AV:=if neg then ruV 2 (fC 0) sE .aA else ruV 1 sE sE .aA
def aC7(L:List (List Nat))(n c:Nat)(neg:Bool):AV :=
 if(kU L n neg).length=0 then aI8 neg else ruV 3 ((kU L n neg).getD (c%(kU L n neg).length) ⟨sE,sE⟩).rl ((kU L n neg).getD (c%(kU L n neg).length) ⟨sE,sE⟩).to .aA
theorem zmp(hC:bC C){k:Nat}(hk:6<=k){v:AV}{L:List (List Nat)}{n c:Nat}{neg:Bool}{H:Hp}(hv:gJ H v L)(hn:n<100000)(hc:c<256) :
  Ok (C k (.f 58) [.agg [v],iN n,.int .u8 (.ofNat c),.bool neg] H) fun r H'=>r=aC7 L n c neg/\Fm No H H':=by
 obtain⟨j,rfl⟩:=aW hk
 rw[(hC j).zBg]
 unfold zBg zrh
 simp(disch:=omega) only[go_sem]
 unfold q9n
 rw[dI]
 have f1:Fm No H (aR (aR H (aD 0 [v])) (aD 0 [.int .u8 (.ofNat 0),.str 0 0,.str 0 0,.aA])):=by exact yN
 have f1':Fm No (aR H (aD 0 [v])) (aR (aR H (aD 0 [v])) (aD 0 [.int .u8 (.ofNat 0),.str 0 0,.str 0 0,.aA])):=by exact jW
 have hcb:vX (aR H (aD 0 [v])) H.nx v:=⟨by simp only[np];omega,by simp(disch:=omega) only[go_sem]⟩
 refine qpq hC (by omega) hn (hv.fm f1) (hcb.fm f1') (fun w H2 hw=> ?_) cK (n / 4*4) .aA _ (Nat.le_refl _) (by omega) (by rw[dK];omega) ?_
 ·unfold qqi
  have hl:=hw.cO
  have f2:=hw.fm
  have ex:=f2.nx
  simp only[np]at ex
  have k2:H2.get (H.nx+1)=aD 0 [.int .u8 (.ofNat 0),.str 0 0,.str 0 0,.aA]:=(f2.keep (by simp only[np];omega)).trans (by simp(disch:=first|omega|exact ti rfl|(simp only[np,nq];first|done|omega)) only[go_sem])
  unfold aC7 kU
  by_cases h0:(lW L n neg (min (bF L) (n / 4*4+4))).length=0
  ·rw[if_pos h0]
   simp only[go_sem,hl,h0]
   refine Ok.ve (qfh hC (k:=j) (by omega) neg H2) ?_
   rintro _ H3 ⟨rfl,f3⟩
   have k3:H3.get (H.nx+1)=aD 0 [.int .u8 (.ofNat 0),.str 0 0,.str 0 0,.aA]:=(f3.keep (by omega)).trans k2
   cases neg<;>(unfold ruV;simp only[go_sem,seval,k3];exact Ok.ret ⟨rfl,((f1.trans f2).trans f3).aM _ _ (by omega)⟩)
  ·rw[if_neg h0]
   simp only[go_sem,hl,h0]
   unfold zod
   have hmod:c%(lW L n neg (min (bF L) (n / 4*4+4))).length<(lW L n neg (min (bF L) (n / 4*4+4))).length:=Nat.mod_lt _ (by omega)
   obtain⟨b,o,e1,e2,e3⟩:=(hw.rs zux).atN hmod
   unfold arC at e3
   simp(disch:=omega) only[go_sem,seval,hl,e1,e3,k2]
   refine Ok.ret ⟨?_,(f1.trans f2).aM _ _ (by omega)⟩
   rw[List.getD_eq_getElem?_getD,List.getElem?_eq_getElem hmod];rfl
 ·unfold lW
  rw[qsj]
  exact Ac.nil _ _ (Fm.refl _ _)
inductive Ru where
 |leaf (kind:Nat) (rl to:SS)
 |node (kind:Nat) (a b:Ru)
 deriving DecidableEq
def Ru.kind:Ru->Nat
 | .leaf k _ _=>k
 | .node k _ _=>k
def lfC(k:Nat)(rl to:SS):List AV:=[.int .u8 (.ofNat k),rl.v,to.v,.aA]
def jK(P:Nat->Prop)(H:Hp):Ru->List AV->Prop
 | .leaf k rl to,cs=>cs=lfC k rl to
 | .node k a b,cs=>∃ bl ca cb,cs=[.int .u8 (.ofNat k),sE.v,sE.v,.sl bl 0 2 2 true]/\bl<H.nx/\P bl/\H.get bl=aD 0 (ca++cb)/\jK P H a ca/\jK P H b cb
theorem jK.iD{P S:Nat->Prop}{H H':Hp}(f:Fm S H H')(hs:∀ b,P b->¬ S b):∀{r:Ru} {cs:List AV},jK P H r cs->jK P H' r cs
 | .leaf _ _ _,_,h=>h
 | .node _ _ _,_,⟨bl,ca,cb,h1,h2,h6,h3,h4,h5⟩=>⟨bl,ca,cb,h1,Nat.lt_of_lt_of_le h2 f.nx,h6,by rw[f.get bl h2 (hs bl h6)];exact h3,jK.iD f hs h4,jK.iD f hs h5⟩
theorem jK.fm{P:Nat->Prop}{H H':Hp}(f:Fm No H H'){r:Ru}{cs:List AV}(h:jK P H r cs):jK P H' r cs:=h.iD f fun _ _ h=>h
theorem jK.mono{P Q:Nat->Prop}{H:Hp}(hq:∀ b,b<H.nx->P b->Q b):∀{r:Ru} {cs:List AV},jK P H r cs->jK Q H r cs
 | .leaf _ _ _,_,h=>h
 | .node _ _ _,_,⟨bl,ca,cb,h1,h2,h6,h3,h4,h5⟩=>⟨bl,ca,cb,h1,h2,hq bl h2 h6,h3,jK.mono hq h4,jK.mono hq h5⟩
theorem jK.four{P:Nat->Prop}{H:Hp}:∀{r:Ru} {cs:List AV},jK P H r cs->∃ a b c d,cs=[a,b,c,d]
 | .leaf _ _ _,_,h=>⟨_,_,_,_,h⟩
 | .node _ _ _,_,⟨_,_,_,h1,_⟩=>⟨_,_,_,_,h1⟩
def zA(neg:Bool):Ru:=if neg then .leaf 2 (fC 0) sE else .leaf 1 sE sE
def rE(L:List (List Nat))(n c:Nat)(neg:Bool):Ru :=
 if(kU L n neg).length=0 then zA neg else .leaf 3 ((kU L n neg).getD (c%(kU L n neg).length) ⟨sE,sE⟩).rl ((kU L n neg).getD (c%(kU L n neg).length) ⟨sE,sE⟩).to
theorem qfi(neg:Bool):∃ k rl to,zA neg= .leaf k rl to/\(if neg then ruV 2 (fC 0) sE .aA else ruV 1 sE sE .aA)= .agg [.int .u8 (.ofNat k),.str rl.n rl.a,.str to.n to.a,.aA]:=by
 cases neg
 ·exact⟨1,sE,sE,rfl,rfl⟩
 ·exact⟨2,fC 0,sE,rfl,rfl⟩
theorem zye(L:List (List Nat))(n c:Nat)(neg:Bool):∃ k rl to,rE L n c neg= .leaf k rl to/\aC7 L n c neg= .agg [.int .u8 (.ofNat k),.str rl.n rl.a,.str to.n to.a,.aA]:=by
 unfold rE aC7
 by_cases h:(kU L n neg).length=0
 ·rw[if_pos h,if_pos h];exact qfi neg
 ·rw[if_neg h,if_neg h];exact⟨_,_,_,rfl,rfl⟩
def wS(L:List (List Nat))(n c:Nat)(neg:Bool):Ru:= .leaf 2 ((cmpL (bF L) n neg).getD (c%(cmpL (bF L) n neg).length) sE) sE
def sI(n c:Nat):Nat:=if c%8=6 then 5 else if c%8=7/\0<lvl n then 6 else 4
def eB(L:List (List Nat))(n:Nat):Nat->Nat->Bool->Ru×Nat
 |0,i,neg=>(zA neg,i)
 |d+1,i,neg =>
  if(L.getD n []).length<=i\/12<=i then(zA neg,i)else
  if dW L n i%8<2 then(zA neg,i+1)else
  if dW L n i%8<4 then(wS L n (dW L n i / 8) neg,i+1)else
  if dW L n i%8=4 then(rE L n (dW L n i / 8) neg,i+1)else
  let a:=eB L n d (i+1) neg
  let b:=eB L n d a.2 (neg||decide (sI n (dW L n i)=6))
  (.node (sI n (dW L n i)) a.1 b.1,b.2)
theorem qjz(L:List (List Nat))(n:Nat):∀(d i:Nat) (neg:Bool),i<=max i 12/\(eB L n d i neg).2<=max i 12
 |0,i,neg=>by unfold eB;omega
 |d+1,i,neg=>by
  unfold eB
  split
  ·omega
  split
  ·omega
  split
  ·omega
  split
  ·omega
  have h1:=(qjz L n d (i+1) neg).2
  have h2:=(qjz L n d (eB L n d (i+1) neg).2 (neg||decide (sI n (dW L n i)=6))).2
  simp only
  omega
def zpy(C:Nat->Ev.Call)(L:List (List Nat))(n:Nat)(v:AV)(k d:Nat):Prop :=
 ∀(i dep:Nat) (neg:Bool) (H:Hp),dep+d=7->i<1000000->gJ H v L->At (bF L) n neg ->
  Ok (C k (.f 27) [.agg [v],iN n,iN i,iN dep,.bool neg] H) fun r H' =>
   ∃cs,r= .aZ [.agg cs,iN ((eB L n d i neg).2)]/\jK (fun b=>H.nx<=b) H' (eB L n d i neg).1 cs/\Fm No H H'
theorem qjy{j d:Nat}{L:List (List Nat)}{n:Nat}{v:AV}(hR:zpy C L n v j d){i dep kd:Nat}{neg:Bool}(hd:dep+d+1=7)(hi:i<900000){H H0:Hp}(hv:gJ H v L)
  (hA:At (bF L) n neg) (hA2:At (bF L) n (neg||decide (kd=6))) {cb rb:Nat} (hcb:vX H cb v) (f0:Fm No H0 H) (bQY:H0.nx<=rb) (hrb:rb<H.nx) (hr:H.get rb=aD 0 [.int .u8 (.ofNat 0),.str 0 0,.str 0 0,.aA]) (hne:cb<rb\/rb<cb) :
  Ok (qgq (C j) (iN n) (iN i) (iN dep) (.bool neg) (.ptr cb 0) (.ptr rb 0) (.int .u8 (.ofNat kd)) H) fun r H' =>
   ∃cs,r= .aZ [.agg cs,iN ((eB L n d (eB L n d i neg).2 (neg||decide (kd=6))).2)] /\
    jK (fun b=>H0.nx<=b) H' (.node kd (eB L n d i neg).1 (eB L n d (eB L n d i neg).2 (neg||decide (kd=6))).1) cs/\Fm No H0 H':=by
 unfold qgq
 have e0:=hcb.is
 simp(disch:=omega) only[go_sem,e0]
 refine Ok.ve (hR i (dep+1) neg H (by omega) (by omega) hv hA) ?_
 rintro _ H1 ⟨ca,rfl,hca,f1⟩
 obtain⟨a0,a1,a2,a3,rfl⟩:=hca.four
 have hat:=(qjz L n d i neg).2
 have fX:Fm No H1 ((aR H1 (aD 0 [.int .u8 (.ofNat 0),.str 0 0,.str 0 0,.aA])).put H1.nx (aD 0 [a0,a1,a2,a3])):=by exact kI
 have c1:=hcb.fm f1
 have e1:=c1.is
 have l1:=c1.lt
 have n1:=f1.nx
 cases neg<;>(
  simp(disch:=first|omega|exact ti rfl|(simp only[np,nq];first|done|omega)) only[go_sem,reduceAdd,reduceLeDiff,e1]
  refine Ok.ve (hR _ (dep+1) _ _ (by omega) (by omega) ((hv.fm f1).fm fX) hA2) ?_
  rintro _ H2 ⟨cb2,rfl,aCZ,f2⟩
  obtain⟨b0,b1,b2,b3,rfl⟩:=aCZ.four
  have n2:=f2.nx
  simp only[np,nq]at n2
  have k2:H2.get H1.nx=aD 0 [a0,a1,a2,a3]:=(f2.keep (by simp only[np,nq];omega)).trans (by simp only[go_sem])
  have r2:H2.get rb=aD 0 [.int .u8 (.ofNat 0),.str 0 0,.str 0 0,.aA]:=((f1.trans (fX.trans f2)).keep hrb).trans hr
  simp(disch:=first|omega|exact ti rfl|(simp only[np,nq];first|done|omega)) only[go_sem,seval,k2,r2]
  have fZ:Fm (fun b=>b=rb) H2 (((aR ((aR H2 (aD 0 [.int .u8 (.ofNat 0),.str 0 0,.str 0 0,.aA])).put H2.nx (aD 0 [b0,b1,b2,b3])) (aD 0 [a0,a1,a2,a3,b0,b1,b2,b3]))).put rb (aD 0 [.int .u8 (.ofNat kd),.str 0 0,.str 0 0,.sl (H2.nx+1) 0 2 2 true])):=by(repeat(first|exact Fm.refl _ _|assumption|refine Fm.push ?_ _|refine Fm.uF ?_ (by(first|omega|(simp only[np,nq];omega)))|refine Fm.aM ?_ _ _ (by(first|omega|(simp only[np,nq];omega)))|refine Fm.put ?_ _ _ (fun _=>rfl)))
  have fF:=(((f0.trans f1).trans fX).trans f2).then fZ fun c hc h=>by omega
  refine Ok.ret ⟨_,rfl,⟨H2.nx+1,_,_,rfl,by simp only[np,nq];omega,by omega,?_,(((hca.fm fX).fm f2).iD fZ fun b h1 h2=>by omega).mono fun b _ h=>by omega,(aCZ.iD fZ fun b h1 h2=>by simp only[np,nq]at h1;omega).mono fun b _ h=>by simp only[np,nq]at h;omega⟩,fF⟩
  simp(disch:=first|omega|exact ti rfl|(simp only[np,nq];first|done|omega)) only[go_sem])
theorem zss(hC:bC C){L:List (List Nat)}{n:Nat}{v:AV}:∀(d k:Nat),10+d<=k->zpy C L n v k d:=by
 intro d
 induction d with
 |zero =>
  intro k hk i dep neg H hd hi hv hA
  obtain⟨j,rfl⟩:∃ j,k=j+1:=⟨k-1,by omega⟩
  rw[(hC j).zAp]
  unfold zAp zjh
  have hnL:n<L.length:=Nat.lt_of_lt_of_le hA.lt (Nat.min_le_left _ _)
  have fX:Fm No H (aR (aR H (aD 0 [v])) (aD 0 [.int .u8 (.ofNat 0),.str 0 0,.str 0 0,.aA])):=by exact yN
  obtain⟨b,o,w,e1,e2,e3,e4⟩:=(hv.fm fX).at hnL
  have el:=e4.len
  rw[show(qL L[n]).length=L[n].length by simp[qL]]at el
  have h3:6<dep:=by omega
  have lI:eB L n 0 i neg=(zA neg,i):=rfl
  rw[lI]
  by_cases h1:L[n].length<=i
  ·simp(disch:=first|omega|exact ti rfl|(simp only[np,nq];first|done|omega)) only[go_sem,e1,e3,el,h1]
   refine Ok.ve (qfh hC (k:=j) (by omega) neg _) ?_
   rintro _ H3 ⟨rfl,f3⟩
   obtain⟨lk,lr,lt,el,ev⟩:=qfi neg
   rw[ev]
   have k3:H3.get (H.nx+1)=aD 0 [.int .u8 (.ofNat 0),.str 0 0,.str 0 0,.aA]:=(f3.keep (by simp only[np];omega)).trans (by simp(disch:=first|omega|exact ti rfl|(simp only[np,nq];first|done|omega)) only[go_sem])
   have n3:=f3.nx
   simp only[go_sem,seval,k3]
   exact Ok.ret ⟨_,rfl,by rw[el];rfl,(fX.trans f3).aM _ _ (by omega)⟩
  ·by_cases h2:12<=i
   ·simp(disch:=first|omega|exact ti rfl|(simp only[np,nq];first|done|omega)) only[go_sem,e1,e3,el,h1,h2]
    refine Ok.ve (qfh hC (k:=j) (by omega) neg _) ?_
    rintro _ H3 ⟨rfl,f3⟩
    obtain⟨lk,lr,lt,el,ev⟩:=qfi neg
    rw[ev]
    have k3:H3.get (H.nx+1)=aD 0 [.int .u8 (.ofNat 0),.str 0 0,.str 0 0,.aA]:=(f3.keep (by simp only[np];omega)).trans (by simp(disch:=first|omega|exact ti rfl|(simp only[np,nq];first|done|omega)) only[go_sem])
    have n3:=f3.nx
    simp only[go_sem,seval,k3]
    exact Ok.ret ⟨_,rfl,by rw[el];rfl,(fX.trans f3).aM _ _ (by omega)⟩
   ·simp(disch:=first|omega|exact ti rfl|(simp only[np,nq];first|done|omega)) only[go_sem,e1,e3,el,h1,h2,h3]
    refine Ok.ve (qfh hC (k:=j) (by omega) neg _) ?_
    rintro _ H3 ⟨rfl,f3⟩
    obtain⟨lk,lr,lt,el,ev⟩:=qfi neg
    rw[ev]
    have k3:H3.get (H.nx+1)=aD 0 [.int .u8 (.ofNat 0),.str 0 0,.str 0 0,.aA]:=(f3.keep (by simp only[np];omega)).trans (by simp(disch:=first|omega|exact ti rfl|(simp only[np,nq];first|done|omega)) only[go_sem])
    have n3:=f3.nx
    simp only[go_sem,seval,k3]
    exact Ok.ret ⟨_,rfl,by rw[el];rfl,(fX.trans f3).aM _ _ (by omega)⟩
 |succ d ih =>
  intro k hk i dep neg H hd hi hv hA
  obtain⟨j,rfl⟩:∃ j,k=j+1:=⟨k-1,by omega⟩
  rw[(hC j).zAp]
  unfold zAp zjh
  have hnL:n<L.length:=Nat.lt_of_lt_of_le hA.lt (Nat.min_le_left _ _)
  have bQT:n<12:=Nat.lt_of_lt_of_le hA.lt hA.le
  have fX:Fm No H (aR (aR H (aD 0 [v])) (aD 0 [.int .u8 (.ofNat 0),.str 0 0,.str 0 0,.aA])):=by exact yN
  have hvX:=hv.fm fX
  have xP:vX (aR (aR H (aD 0 [v])) (aD 0 [.int .u8 (.ofNat 0),.str 0 0,.str 0 0,.aA])) H.nx v:=⟨by simp only[np];omega,by simp(disch:=first|omega|exact ti rfl|(simp only[np,nq];first|done|omega)) only[go_sem]⟩
  have hrX:(aR (aR H (aD 0 [v])) (aD 0 [.int .u8 (.ofNat 0),.str 0 0,.str 0 0,.aA])).get (H.nx+1)=aD 0 [.int .u8 (.ofNat 0),.str 0 0,.str 0 0,.aA]:=by simp(disch:=first|omega|exact ti rfl|(simp only[np,nq];first|done|omega)) only[go_sem]
  obtain⟨b,o,w,e1,e2,e3,e4⟩:=hvX.at hnL
  have el:=e4.len
  rw[show(qL L[n]).length=L[n].length by simp[qL]]at el
  have hnd:L.getD n []=L[n]:=by rw[List.getD_eq_getElem?_getD,List.getElem?_eq_getElem hnL];rfl
  have h3:¬ 6<dep:=by omega
  by_cases hs:L[n].length<=i\/12<=i
  ·have lI:eB L n (d+1) i neg=(zA neg,i):=by unfold eB;rw[hnd,if_pos hs]
   rw[lI]
   by_cases h1:L[n].length<=i
   ·simp(disch:=first|omega|exact ti rfl|(simp only[np,nq];first|done|omega)) only[go_sem,e1,e3,el,h1]
    refine Ok.ve (qfh hC (k:=j) (by omega) neg _) ?_
    rintro _ H3 ⟨rfl,f3⟩
    obtain⟨lk,lr,lt,el,ev⟩:=qfi neg
    rw[ev]
    have k3:H3.get (H.nx+1)=aD 0 [.int .u8 (.ofNat 0),.str 0 0,.str 0 0,.aA]:=(f3.keep (by simp only[np];omega)).trans (by simp(disch:=first|omega|exact ti rfl|(simp only[np,nq];first|done|omega)) only[go_sem])
    have n3:=f3.nx
    simp only[go_sem,seval,k3]
    exact Ok.ret ⟨_,rfl,by rw[el];rfl,(fX.trans f3).aM _ _ (by omega)⟩
   ·have h2:12<=i:=by omega
    simp(disch:=first|omega|exact ti rfl|(simp only[np,nq];first|done|omega)) only[go_sem,e1,e3,el,h1,h2]
    refine Ok.ve (qfh hC (k:=j) (by omega) neg _) ?_
    rintro _ H3 ⟨rfl,f3⟩
    obtain⟨lk,lr,lt,el,ev⟩:=qfi neg
    rw[ev]
    have k3:H3.get (H.nx+1)=aD 0 [.int .u8 (.ofNat 0),.str 0 0,.str 0 0,.aA]:=(f3.keep (by simp only[np];omega)).trans (by simp(disch:=first|omega|exact ti rfl|(simp only[np,nq];first|done|omega)) only[go_sem])
    have n3:=f3.nx
    simp only[go_sem,seval,k3]
    exact Ok.ret ⟨_,rfl,by rw[el];rfl,(fX.trans f3).aM _ _ (by omega)⟩
  ·have h1:¬ L[n].length<=i:=by omega
   have h2:¬ 12<=i:=by omega
   have hil:i<L[n].length:=by omega
   obtain⟨b1,o1,g1,g2,g3⟩:=e4.at' i (by simp[qL];omega)
   have hwv:(qL L[n])[i]'(by simp[qL];omega)= .int .u8 (.ofNat (dW L n i)):=by
    unfold dW
    rw[hnd,List.getD_eq_getElem?_getD,List.getElem?_eq_getElem hil]
    simp[qL]
   rw[hwv]at g3
   have hc:=q39 hv n i
   simp(disch:=first|omega|exact ti rfl|(simp only[np,nq];first|done|omega)) only[go_sem,e1,e3,el,h1,h2,h3]
   unfold zan
   have h8:dW L n i%8=0\/dW L n i%8=1\/dW L n i%8=2\/dW L n i%8=3\/dW L n i%8=4\/dW L n i%8=5\/dW L n i%8=6\/dW L n i%8=7:=by omega
   rcases h8 with h|h|h|h|h|h|h|h
   ·have lI:eB L n (d+1) i neg=(zA neg,i+1):=by unfold eB;rw[hnd,if_neg hs,if_pos (by omega)]
    rw[lI]
    simp(disch:=first|omega|exact ti rfl|(simp only[np,nq];first|done|omega)) only[go_sem,e1,e3,g1,g3,h]
    unfold qdk
    refine Ok.ve (qfh hC (k:=j) (by omega) neg _) ?_
    rintro _ H3 ⟨rfl,f3⟩
    obtain⟨lk,lr,lt,el,ev⟩:=qfi neg
    rw[ev]
    have k3:H3.get (H.nx+1)=aD 0 [.int .u8 (.ofNat 0),.str 0 0,.str 0 0,.aA]:=(f3.keep (by simp only[np];omega)).trans (by simp(disch:=first|omega|exact ti rfl|(simp only[np,nq];first|done|omega)) only[go_sem])
    have n3:=f3.nx
    simp only[go_sem,seval,k3]
    exact Ok.ret ⟨_,rfl,by rw[el];rfl,(fX.trans f3).aM _ _ (by omega)⟩
   ·have lI:eB L n (d+1) i neg=(zA neg,i+1):=by unfold eB;rw[hnd,if_neg hs,if_pos (by omega)]
    rw[lI]
    simp(disch:=first|omega|exact ti rfl|(simp only[np,nq];first|done|omega)) only[go_sem,e1,e3,g1,g3,h]
    unfold qdk
    refine Ok.ve (qfh hC (k:=j) (by omega) neg _) ?_
    rintro _ H3 ⟨rfl,f3⟩
    obtain⟨lk,lr,lt,el,ev⟩:=qfi neg
    rw[ev]
    have k3:H3.get (H.nx+1)=aD 0 [.int .u8 (.ofNat 0),.str 0 0,.str 0 0,.aA]:=(f3.keep (by simp only[np];omega)).trans (by simp(disch:=first|omega|exact ti rfl|(simp only[np,nq];first|done|omega)) only[go_sem])
    have n3:=f3.nx
    simp only[go_sem,seval,k3]
    exact Ok.ret ⟨_,rfl,by rw[el];rfl,(fX.trans f3).aM _ _ (by omega)⟩
   ·have lI:eB L n (d+1) i neg=(wS L n (dW L n i / 8) neg,i+1):=by unfold eB;rw[hnd,if_neg hs,if_neg (by omega),if_pos (by omega)]
    rw[lI]
    simp(disch:=first|omega|exact ti rfl|(simp only[np,nq];first|done|omega)) only[go_sem,e1,e3,g1,g3,h]
    unfold qdk
    unfold qen
    have c1:=xP.is
    simp(disch:=omega) only[go_sem,c1]
    refine Ok.ve (qmw hC (k:=j) (by omega) hvX hA (by omega)) ?_
    rintro _ H3 ⟨rfl,f3⟩
    obtain⟨lk,lr,lt,el,ev⟩:=(⟨2,(cmpL (bF L) n neg).getD (dW L n i / 8%(cmpL (bF L) n neg).length) sE,sE,rfl,rfl⟩:∃ k rl to,wS L n (dW L n i / 8) neg= .leaf k rl to/\ruV 2 ((cmpL (bF L) n neg).getD (dW L n i / 8%(cmpL (bF L) n neg).length) sE) sE .aA= .agg [.int .u8 (.ofNat k),.str rl.n rl.a,.str to.n to.a,.aA])
    rw[ev]
    have k3:H3.get (H.nx+1)=aD 0 [.int .u8 (.ofNat 0),.str 0 0,.str 0 0,.aA]:=(f3.keep (by simp only[np];omega)).trans (by simp(disch:=first|omega|exact ti rfl|(simp only[np,nq];first|done|omega)) only[go_sem])
    have n3:=f3.nx
    simp only[go_sem,seval,k3]
    exact Ok.ret ⟨_,rfl,by rw[el];rfl,(fX.trans f3).aM _ _ (by omega)⟩
   ·have lI:eB L n (d+1) i neg=(wS L n (dW L n i / 8) neg,i+1):=by unfold eB;rw[hnd,if_neg hs,if_neg (by omega),if_pos (by omega)]
    rw[lI]
    simp(disch:=first|omega|exact ti rfl|(simp only[np,nq];first|done|omega)) only[go_sem,e1,e3,g1,g3,h]
    unfold qdk
    unfold qen
    have c1:=xP.is
    simp(disch:=omega) only[go_sem,c1]
    refine Ok.ve (qmw hC (k:=j) (by omega) hvX hA (by omega)) ?_
    rintro _ H3 ⟨rfl,f3⟩
    obtain⟨lk,lr,lt,el,ev⟩:=(⟨2,(cmpL (bF L) n neg).getD (dW L n i / 8%(cmpL (bF L) n neg).length) sE,sE,rfl,rfl⟩:∃ k rl to,wS L n (dW L n i / 8) neg= .leaf k rl to/\ruV 2 ((cmpL (bF L) n neg).getD (dW L n i / 8%(cmpL (bF L) n neg).length) sE) sE .aA= .agg [.int .u8 (.ofNat k),.str rl.n rl.a,.str to.n to.a,.aA])
    rw[ev]
    have k3:H3.get (H.nx+1)=aD 0 [.int .u8 (.ofNat 0),.str 0 0,.str 0 0,.aA]:=(f3.keep (by simp only[np];omega)).trans (by simp(disch:=first|omega|exact ti rfl|(simp only[np,nq];first|done|omega)) only[go_sem])
    have n3:=f3.nx
    simp only[go_sem,seval,k3]
    exact Ok.ret ⟨_,rfl,by rw[el];rfl,(fX.trans f3).aM _ _ (by omega)⟩
   ·have lI:eB L n (d+1) i neg=(rE L n (dW L n i / 8) neg,i+1):=by unfold eB;rw[hnd,if_neg hs,if_neg (by omega),if_neg (by omega),if_pos h]
    rw[lI]
    simp(disch:=first|omega|exact ti rfl|(simp only[np,nq];first|done|omega)) only[go_sem,e1,e3,g1,g3,h]
    unfold qdk
    unfold qen
    have c1:=xP.is
    simp(disch:=omega) only[go_sem,c1]
    refine Ok.ve (zmp hC (k:=j) (by omega) hvX (by omega) (by omega)) ?_
    rintro _ H3 ⟨rfl,f3⟩
    obtain⟨lk,lr,lt,el,ev⟩:=zye L n (dW L n i / 8) neg
    rw[ev]
    have k3:H3.get (H.nx+1)=aD 0 [.int .u8 (.ofNat 0),.str 0 0,.str 0 0,.aA]:=(f3.keep (by simp only[np];omega)).trans (by simp(disch:=first|omega|exact ti rfl|(simp only[np,nq];first|done|omega)) only[go_sem])
    have n3:=f3.nx
    simp only[go_sem,seval,k3]
    exact Ok.ret ⟨_,rfl,by rw[el];rfl,(fX.trans f3).aM _ _ (by omega)⟩
   ·have hkd:sI n (dW L n i)=4:=by unfold sI;rw[if_neg (by omega),if_neg (by omega)]
    have hA2:At (bF L) n (neg||decide (4=6)):=by simpa using hA
    have lI:eB L n (d+1) i neg=(.node 4 (eB L n d (i+1) neg).1 (eB L n d (eB L n d (i+1) neg).2 (neg||decide (4=6))).1,(eB L n d (eB L n d (i+1) neg).2 (neg||decide (4=6))).2):=by
     rw[eB,hnd,if_neg hs,if_neg (by omega),if_neg (by omega),if_neg (by omega),hkd]
    rw[lI]
    simp(disch:=first|omega|exact ti rfl|(simp only[np,nq];first|done|omega)) only[go_sem,e1,e3,g1,g3,h]
    unfold qdk
    unfold qen
    exact qjy (ih j (by omega)) (by omega) (by omega) hvX hA hA2 xP fX (by omega) (by simp only[np];omega) hrX (by omega)
   ·have hkd:sI n (dW L n i)=5:=by unfold sI;rw[if_pos h]
    have hA2:At (bF L) n (neg||decide (5=6)):=by simpa using hA
    have lI:eB L n (d+1) i neg=(.node 5 (eB L n d (i+1) neg).1 (eB L n d (eB L n d (i+1) neg).2 (neg||decide (5=6))).1,(eB L n d (eB L n d (i+1) neg).2 (neg||decide (5=6))).2):=by
     rw[eB,hnd,if_neg hs,if_neg (by omega),if_neg (by omega),if_neg (by omega),hkd]
    rw[lI]
    simp(disch:=first|omega|exact ti rfl|(simp only[np,nq];first|done|omega)) only[go_sem,e1,e3,g1,g3,h]
    unfold qdk
    unfold qen
    exact qjy (ih j (by omega)) (by omega) (by omega) hvX hA hA2 xP fX (by omega) (by simp only[np];omega) hrX (by omega)
   ·by_cases hup:0<lvl n
    ·have hkd:sI n (dW L n i)=6:=by unfold sI;rw[if_neg (by omega),if_pos ⟨h,hup⟩]
     have hA2:At (bF L) n (neg||decide (6=6)):=⟨hA.lt,hA.le,fun _=>hup⟩
     have lI:eB L n (d+1) i neg=(.node 6 (eB L n d (i+1) neg).1 (eB L n d (eB L n d (i+1) neg).2 (neg||decide (6=6))).1,(eB L n d (eB L n d (i+1) neg).2 (neg||decide (6=6))).2):=by
      rw[eB,hnd,if_neg hs,if_neg (by omega),if_neg (by omega),if_neg (by omega),hkd]
     rw[lI]
     simp(disch:=first|omega|exact ti rfl|(simp only[np,nq];first|done|omega)) only[go_sem,e1,e3,g1,g3,h]
     unfold qdk
     unfold qen
     refine Ok.ve (qdz hC (k:=j) (by omega) n (by omega) _) ?_
     rintro _ H3 ⟨rfl,f3⟩
     have r3:H3.get (H.nx+1)=aD 0 [.int .u8 (.ofNat 0),.str 0 0,.str 0 0,.aA]:=(f3.keep (by simp only[np];omega)).trans hrX
     have n3:=f3.nx
     simp only[np]at n3
     simp only[go_sem,hup]
     exact qjy (ih j (by omega)) (by omega) (by omega) (hvX.fm f3) hA hA2 (xP.fm f3) (fX.trans f3) (by omega) (by omega) r3 (by omega)
    ·have hkd:sI n (dW L n i)=4:=by unfold sI;rw[if_neg (by omega),if_neg (fun h=>hup h.2)]
     have hA2:At (bF L) n (neg||decide (4=6)):=by simpa using hA
     have lI:eB L n (d+1) i neg=(.node 4 (eB L n d (i+1) neg).1 (eB L n d (eB L n d (i+1) neg).2 (neg||decide (4=6))).1,(eB L n d (eB L n d (i+1) neg).2 (neg||decide (4=6))).2):=by
      rw[eB,hnd,if_neg hs,if_neg (by omega),if_neg (by omega),if_neg (by omega),hkd]
     rw[lI]
     simp(disch:=first|omega|exact ti rfl|(simp only[np,nq];first|done|omega)) only[go_sem,e1,e3,g1,g3,h]
     unfold qdk
     unfold qen
     refine Ok.ve (qdz hC (k:=j) (by omega) n (by omega) _) ?_
     rintro _ H3 ⟨rfl,f3⟩
     have r3:H3.get (H.nx+1)=aD 0 [.int .u8 (.ofNat 0),.str 0 0,.str 0 0,.aA]:=(f3.keep (by simp only[np];omega)).trans hrX
     have n3:=f3.nx
     simp only[np]at n3
     simp only[go_sem,hup]
     exact qjy (ih j (by omega)) (by omega) (by omega) (hvX.fm f3) hA hA2 (xP.fm f3) (fX.trans f3) (by omega) (by omega) r3 (by omega)
theorem jK.flat{P:Nat->Prop}{H:Hp}:∀{r:Ru} {cs:List AV},jK P H r cs->cs.all sZ=true
 | .leaf _ _ _,_,h=>by rw[show _=_ from h];rfl
 | .node _ _ _,_,⟨_,_,_,h1,_⟩=>by rw[h1];rfl
structure Nd where
 k:Nat
 rl:SS
 to:SS
 neg:Bool
 deriving DecidableEq
def jZ(x:Nd×AV):List AV:=[.int .u8 (.ofNat x.1.k),x.1.rl.v,x.1.to.v,x.2,.bool x.1.neg]
theorem wO(x:Nd×AV):(jZ x).length=5:=rfl
def Ru.nodes:Ru->Bool->List Nd
 | .leaf k rl to,neg=>[⟨k,rl,to,neg⟩]
 | .node k a b,neg=>⟨k,sE,sE,neg⟩::(a.nodes neg++b.nodes (neg||decide (k=6)))
def Ru.size:Ru->Nat
 | .leaf _ _ _=>1
 | .node _ a b=>a.size+b.size+1
def Ru.depth:Ru->Nat
 | .leaf _ _ _=>1
 | .node _ a b=>max a.depth b.depth+1
theorem qbw:∀(r:Ru) (neg:Bool),(r.nodes neg).length=r.size
 | .leaf _ _ _,_=>rfl
 | .node _ a b,neg=>by
  unfold Ru.nodes Ru.size
  rw[List.length_cons,List.length_append,qbw a,qbw b]
theorem zda(L:List AV)(o i:Nat)(x:AV)(h:o+i<L.length):(bD L (o+i) [x]).drop o=bD (L.drop o) i [x]:=by
 unfold bD
 simp only[List.length_cons,List.length_nil,Nat.zero_add,List.append_assoc]
 rw[List.drop_append_of_le_length (by simp;omega),List.drop_take,Nat.add_sub_cancel_left,List.drop_drop]
 congr 3
theorem Gl.set1{z n:Nat}{H:Hp}{v:AV}{l:List AV}(h:Gl z H v n l){i j:Nat}(hi:i<n)(hj:j<z)(x:AV) :
  ∃b o H',aL z v (iN i)= .val (.ptr b o)/\storeAt H b (o+j) [x] .undef= .ok .undef H'/\Gl z H' v n (bD l (i*z+j) [x])/\Fm (In v) H H'/\H'.nx=H.nx:=by
 have hl:=h.len
 rcases h.is with⟨rfl,rfl⟩|⟨b,o,e,q,L,rfl,h1,h2,h3,h4,h5⟩
 ·omega
 ·have hm:i*z+z<=n*z:=by
   have:(i+1)*z<=n*z:=Nat.mul_le_mul_right z hi
   rw[Nat.add_mul,Nat.one_mul]at this;exact this
  have hL:o+n*z=L.length:=by rw[<-h3,List.length_drop]at hl;omega
  have hs:o+i*z+j+[x].length<=L.length:=by simp;omega
  have hb:i*z+j+[x].length<=l.length:=by rw[hl];simp;omega
  refine⟨b,o+i*z,_,sP _ _ _ _ _ _ _ _ hi,qcg H b _ [x] _ q L h1 hs,⟨?_,.inr ⟨b,o,e,q,_,rfl,eP _ _ _,?_,?_,h4,h5⟩⟩,(Fm.refl _ _).put b _ fun _=>⟨_,_,_,_,rfl⟩,rfl⟩
  ·rw[qep _ _ _ hb,hl]
  ·rw[qep _ _ _ hs];exact h2
  ·rw[Nat.add_assoc,zda _ _ _ _ (by omega),h3]
theorem zed(a:AV):∀(l:List (Nd×AV)) (i:Nat) (h:i<l.length),bD (l.flatMap jZ) (i*5+3) [a]=(l.set i (l[i].1,a)).flatMap jZ
 | [],_,h=>by simp at h
 |x::l,0,_=>by simp[bD,jZ]
 |x::l,i+1,h=>by
  have:=zed a l i (by simpa using h)
  rw[List.set_cons_succ,List.flatMap_cons,List.flatMap_cons,List.getElem_cons_succ,<-this]
  unfold bD
  have e:(i+1)*5+3=(jZ x).length+(i*5+3):=by rw[wO];omega
  rw[e,List.take_length_add_append,List.append_assoc,List.append_assoc]
  congr 1
  rw[List.append_assoc]
  congr 2
  rw[Nat.add_assoc,List.drop_length_add_append]
theorem mP.comp{α:Type}{z:Nat}{f:α->List AV}{S:Nat->Prop}{H0 H H':Hp}{v v':AV}{l l':List α}(h:mP z f S H0 H v l)(h':mP z f (In v) H H' v' l'):mP z f S H0 H' v' l' :=
 ⟨h'.gl,h.fm.then h'.fm fun c hc hi=>by
  rcases h.nw c hi with h1|h1
  ·exact h1
  ·omega,fun b hb=>by
  rcases h'.nw b hb with h1|h1
  ·exact h.nw b h1
  ·exact .inr (Nat.le_trans h.fm.nx h1)⟩
def zgx(C:Nat->Ev.Call)(r:Ru)(k:Nat):Prop :=
 ∀(v:AV) (neg:Bool) (H:Hp) {l:List (Nd×AV)} {cs:List AV} {P:Nat->Prop},Gl 5 H v l.length (l.flatMap jZ)->jK P H r cs->(∀b,P b->¬ In v b)->l.length+r.size<=1000000 ->
  Ok (C k (.f 35) [v,.agg cs,.bool neg] H) fun w H'=>∃ l',mP 5 jZ (In v) H H' w l'/\l'.map Prod.fst=l.map Prod.fst++r.nodes neg
theorem qy9{l:List (Nd×AV)}{i:Nat}(h:i<l.length)(x:AV):(l.set i (l[i].1,x)).map Prod.fst=l.map Prod.fst:=by
 refine List.ext_getElem (by simp) fun j h1 h2=> ?_
 simp only[List.getElem_map,List.getElem_set]
 split
 ·subst_vars;rfl
 ·rfl
theorem qvk{call:Ev.Call}{S:Nat->Prop}{H0 H:Hp}{w:AV}{l:List (Nd×AV)}(h:mP 5 jZ S H0 H w l){i:Nat}(hi:i<l.length){x:AV}(hx:x= .aA\/∃ b o n m e,x= .sl b o n m e) :
  Ok (qqp call w (iN i) x H) fun r H'=>∃ l',mP 5 jZ S H0 H' r l'/\l'.map Prod.fst=l.map Prod.fst:=by
 obtain⟨b,o,H',e1,e2,g,f,nx⟩:=h.gl.set1 hi (j:=3) (by omega) x
 unfold qqp
 rw[zed x l i hi]at g
 refine Ok.mono (Q:=fun r H2=>r=w/\H2=H') ?_ ?_
 ·rcases hx with rfl|⟨_,_,_,_,_,rfl⟩<;>(simp only[go_sem,e1,e2];exact Ok.ret ⟨rfl,rfl⟩)
 ·rintro _ _ ⟨rfl,rfl⟩
  exact⟨_,⟨by rw[List.length_set];exact g,h.fm.then f fun c hc hi=>by
   rcases h.nw c hi with h1|h1
   ·exact h1
   ·omega,h.nw⟩,qy9 hi x⟩
theorem qo3{j:Nat}{r:Ru}(hR:zgx C r j){g:AV->AV->AV->Hp->R1}{Q:AV->Hp->Prop}{w x:AV}{H:Hp}{l:List (Nd×AV)}{xs ca cb cc:List AV}{a0 bl kd t:Nat}{neg:Bool}{P:Nat->Prop}
  (hw:Gl 5 H w l.length (l.flatMap jZ)) (hx:Gl 1 H x t xs) (ht:t<2) (hll:l.length+r.size<=1000000)
  (ha:a0<H.nx) (hb:bl<H.nx) (ka:H.get a0=aD 0 [.int .u8 (.ofNat kd),sE.v,sE.v,.sl bl 0 2 2 true]) (kb:H.get bl=aD 0 (ca++cb))
  (hrd:iZ (aD 0 (ca++cb)) (t*4) 4=some cc) (hrc:jK P H r cc)
  (d1:∀ b,In x b->¬ In w b) (hda:¬ In w a0/\¬ In x a0) (hdb:¬ In w bl/\¬ In x bl) (dPw:∀ b,P b->¬ In w b) (dPx:∀ b,P b->¬ In x b)
  (hg:∀(w' x':AV) (H':Hp) (l':List (Nd×AV)) (xs':List AV),Gl 5 H' w' l'.length (l'.flatMap jZ)->(∀b,In w' b->In w b\/H.nx<=b)->l'.map Prod.fst=l.map Prod.fst++r.nodes (neg||(decide (kd=6)&&decide (t=1))) ->
   Fm (fun b=>In w b\/In x b) H H'->Gl 1 H' x' (t+1) xs'->(∀b,In x' b->H.nx<=b/\¬ In w' b)->Ok (g w' x' (iN ((t+1))) H') Q) :
  Ok (qxz (C j) g w (.bool neg) (.ptr a0 0) x (iN t) H) Q:=by
 unfold qxz
 have hl:=hw.cO
 simp(disch:=first|omega|exact ti rfl|(simp only[np,nq];first|done|omega)) only[go_sem,reduceLeDiff,hl]
 have fp:Fm No H (aR H (aD 0 [iN (l.length)])):=by exact jW
 obtain⟨H2,e2,g2,q2,f2,n2⟩:=(hx.no fp).append (k:=1) (w:=8) (x:=[iN (l.length)]) (by omega) rfl (by omega) (by omega)
 simp only[np]at n2
 refine Ok.veE e2 ?_
 have fA:Fm (In x) H H2:=(fp.mono (T:=In x) (fun _ _ h=>absurd h id)).then f2 fun _ _ h=>h
 have kp:∀ b,b<H.nx->¬ In x b->H2.get b=H.get b:=fun b hb hx'=>fA.get b hb hx'
 have ka2:H2.get a0=aD 0 [.int .u8 (.ofNat kd),sE.v,sE.v,.sl bl 0 2 2 true]:=(kp a0 ha hda.2).trans ka
 have kb2:H2.get bl=aD 0 (ca++cb):=(kp bl hb hdb.2).trans kb
 have r2:iZ (H2.get bl) (t*4) 4=some cc:=by rw[kb2];exact hrd
 have hcf:=hrc.four
 obtain⟨c0,c1,c2,c3,hcc⟩:=hcf
 subst hcc
 have hwk:Gl 5 H2 w l.length (l.flatMap jZ):=hw.keep fA.nx (fun b hb hl=>kp b hl (fun hx'=>d1 b hx' hb))
 have fin:∀(b:Bool),b=(neg||(decide (kd=6)&&decide (t=1)))->∀(w3:AV) (H3:Hp) (l3:List (Nd×AV)),mP 5 jZ (In w) H2 H3 w3 l3->l3.map Prod.fst=l.map Prod.fst++r.nodes b ->
   Ok (g w3 (.sl (aR H (aD 0 [iN (l.length)])).nx 0 (t+1) (t+1) false) (iN ((t+1))) H3) Q:=by
  rintro _ rfl w3 H3 l3 hw3 hl3
  refine hg w3 _ H3 l3 _ hw3.gl (fun b hb=> ?_) hl3 ?_ (g2.keep hw3.fm.nx fun b hb hlt=>hw3.fm.get b hlt fun h=> ?_) (fun b hb=>⟨?_,fun h=> ?_⟩)
  ·rcases hw3.nw b hb with h|h
   ·exact .inl h
   ·omega
  ·exact(fA.mono fun _ _ h=> .inr h).then hw3.fm fun _ _ h=> .inl h
  ·obtain⟨_,_,_,_,hb⟩:=hb
   cases hb
   have:=hw.lt h
   simp only[np]at this
   omega
  ·obtain⟨_,_,_,_,hb⟩:=hb
   cases hb
   simp only[np];omega
  ·obtain⟨_,_,_,_,hb⟩:=hb
   cases hb
   simp only[np]at h
   rcases hw3.nw _ h with h|h
   ·have:=hw.lt h
    omega
   ·omega
 have call:∀ b:Bool,Ok (C j (.f 35) [w,.agg [c0,c1,c2,c3],.bool b] H2) fun w' H'=>∃ l',mP 5 jZ (In w) H2 H' w' l'/\l'.map Prod.fst=l.map Prod.fst++r.nodes b:=fun b=>hR w b H2 hwk (hrc.iD fA dPx) dPw hll
 have aFb:nP 64 (.agg [c0,c1,c2,c3]) (.agg [c0,c1,c2,c3])=true:=by
  have hfl:=hrc.flat
  refine qmt _ ?_
  rw[hfl];rfl
 cases neg
 ·by_cases h6:kd=6
  ·subst h6
   simp(disch:=omega) only[go_sem,ka2,r2]
   refine Ok.lX (call (decide (t=1))) ?_
   rintro w3 H3 ⟨l3,hw3,hl3⟩
   have f3:=hw3.fm
   have ka3:H3.get a0=aD 0 [.int .u8 (.ofNat 6),.str 0 0,.str 0 0,.sl bl 0 2 2 true]:=(f3.get a0 (by omega) hda.1).trans ka2
   have r3:iZ (H3.get bl) (t*4) 4=some [c0,c1,c2,c3]:=by rw[f3.get bl (by omega) hdb.1];exact r2
   have ec:=aFb
   unfold qqo
   simp(disch:=omega) only[go_sem]
   exact fin (decide (t=1)) (by simp) w3 H3 l3 hw3 hl3
  ·simp(disch:=omega) only[go_sem,ka2,r2,h6]
   refine Ok.lX (call false) ?_
   rintro w3 H3 ⟨l3,hw3,hl3⟩
   have f3:=hw3.fm
   have ka3:H3.get a0=aD 0 [.int .u8 (.ofNat kd),.str 0 0,.str 0 0,.sl bl 0 2 2 true]:=(f3.get a0 (by omega) hda.1).trans ka2
   have r3:iZ (H3.get bl) (t*4) 4=some [c0,c1,c2,c3]:=by rw[f3.get bl (by omega) hdb.1];exact r2
   have ec:=aFb
   unfold qqo
   simp(disch:=omega) only[go_sem]
   exact fin false (by simp[h6]) w3 H3 l3 hw3 hl3
 ·simp(disch:=omega) only[go_sem,ka2,r2]
  refine Ok.lX (call true) ?_
  rintro w3 H3 ⟨l3,hw3,hl3⟩
  have f3:=hw3.fm
  have ka3:H3.get a0=aD 0 [.int .u8 (.ofNat kd),.str 0 0,.str 0 0,.sl bl 0 2 2 true]:=(f3.get a0 (by omega) hda.1).trans ka2
  have r3:iZ (H3.get bl) (t*4) 4=some [c0,c1,c2,c3]:=by rw[f3.get bl (by omega) hdb.1];exact r2
  have ec:=aFb
  unfold qqo
  simp(disch:=omega) only[go_sem]
  exact fin true (by simp) w3 H3 l3 hw3 hl3
theorem mP.base{α:Type}{z:Nat}{f:α->List AV}{S:Nat->Prop}{H0 H1 H:Hp}{v:AV}{l:List α}(a:Fm No H0 H1)(h:mP z f S H1 H v l):mP z f S H0 H v l :=
 ⟨h.gl,(a.mono fun _ _ h=>absurd h id).then h.fm fun _ _ h=>h,fun b hb=>(h.nw b hb).imp id fun h=>Nat.le_trans a.nx h⟩
theorem Gl.aBu{α:Type}{z:Nat}{f:α->List AV}{H H1:Hp}{v:AV}{l:List α}(h:Gl z H v l.length (l.flatMap f))(a:Fm No H H1):mP z f (In v) H1 H1 v l:=⟨h.no a,Fm.refl _ _,fun _ h=> .inl h⟩
theorem n15(call:Ev.Call)(q:AV->AV->Hp->R1)(x2 x4:AV)(n:Nat):qqn call q x2 x4 (n+1)=qia call q x2 x4 (qqn call q x2 x4 n):=rfl
theorem q3c(hC:bC C):∀(r:Ru) (k:Nat),r.depth<=k->zgx C r k:=by
 intro r
 induction r with
 |leaf kd rl to =>
  intro k hk v neg H l cs P hv hr hP hll
  unfold Ru.depth at hk
  obtain⟨j,rfl⟩:∃ j,k=j+1:=⟨k-1,by omega⟩
  rw[(hC j).zAz]
  unfold zAz zi6
  obtain rfl:cs=lfC kd rl to:=hr
  have hl:=hv.cO
  unfold lfC SS.v
  simp(disch:=first|omega|exact ti rfl|(simp only[np,nq];first|done|omega)) only[go_sem,seval,hl]
  have fX:Fm No H (aR (aR H (aD 0 [.int .u8 (.ofNat kd),.str rl.n rl.a,.str to.n to.a,.aA])) (aD 0 (jZ (⟨kd,rl,to,neg⟩,.aA)))):=by exact yN
  refine Ok.ve ((hv.aBu fX).add (⟨kd,rl,to,neg⟩,.aA) 72 rfl (by omega) (by omega)) ?_
  intro w H1 hw
  have k1:H1.get H.nx=aD 0 [.int .u8 (.ofNat kd),.str rl.n rl.a,.str to.n to.a,.aA]:=(hw.fm.get _ (by simp only[np];omega) fun h=>by have:=hv.lt h;omega).trans (by simp(disch:=first|omega|exact ti rfl|(simp only[np,nq];first|done|omega)) only[go_sem])
  unfold qx0
  obtain⟨m,hm⟩:∃ m,cK=m+1:=⟨999999,by rw[dK]⟩
  rw[dI,hm]
  rw[n15]
  unfold qia
  simp only[go_sem,k1]
  refine(qvk (call:=C j) hw (by simp) (.inl rfl)).mono ?_
  rintro r H2 ⟨l',h1,h2⟩
  exact⟨l',h1.base fX,by rw[h2];simp[Ru.nodes]⟩
 |node kd a b iha ihb =>
  intro k hk v neg H l cs P hv hr hP hll
  unfold Ru.depth at hk
  obtain⟨j,rfl⟩:∃ j,k=j+1:=⟨k-1,by omega⟩
  rw[(hC j).zAz]
  unfold zAz zi6
  obtain⟨bl,ca,cb,rfl,hbl,hPb,kb,hca,hcb⟩:=hr
  have hl:=hv.cO
  unfold sE SS.v
  simp(disch:=first|omega|exact ti rfl|(simp only[np,nq];first|done|omega)) only[go_sem,reduceAdd,reduceMul,reduceLeDiff,hl]
  have fX:Fm No H (aR (aR H (aD 0 [.int .u8 (.ofNat kd),.str 0 0,.str 0 0,.sl bl 0 2 2 true])) (aD 0 (jZ (⟨kd,sE,sE,neg⟩,.aA)))):=by exact yN
  unfold Ru.size at hll
  refine Ok.ve ((hv.aBu fX).add (⟨kd,sE,sE,neg⟩,.aA) 72 rfl (by omega) (by omega)) ?_
  intro w H1 hw
  have f1:=hw.fm
  have n1:=f1.nx
  simp only[np]at n1
  have k1:H1.get H.nx=aD 0 [.int .u8 (.ofNat kd),.str 0 0,.str 0 0,.sl bl 0 2 2 true]:=(hw.fm.get _ (by simp only[np];omega) fun h=>by have:=hv.lt h;omega).trans (by simp(disch:=first|omega|exact ti rfl|(simp only[np,nq];first|done|omega)) only[go_sem])
  have fH:Fm (In v) H H1:=(fX.mono fun _ _ h=>absurd h id).then f1 fun _ _ h=>h
  have kb1:H1.get bl=aD 0 (ca++cb):=(fH.get bl hbl (hP bl hPb)).trans kb
  have aUH:jK (fun x=>P x/\x<H.nx) H1 a ca:=(hca.mono fun b h1 h2=>(⟨h2,h1⟩:P b/\b<H.nx)).iD fH fun b h=>hP b h.1
  have aT5:jK (fun x=>P x/\x<H.nx) H1 b cb:=(hcb.mono fun b h1 h2=>(⟨h2,h1⟩:P b/\b<H.nx)).iD fH fun b h=>hP b h.1
  have dw:∀ x,In w x->In v x\/H.nx+2<=x:=fun x h=>by
   rcases hw.nw x h with h|h
   ·exact .inl h
   ·exact .inr (by simp only[np]at h;omega)
  have la:ca.length=4:=by obtain⟨_,_,_,_,h⟩:=hca.four;rw[h];rfl
  have lb:cb.length=4:=by obtain⟨_,_,_,_,h⟩:=hcb.four;rw[h];rfl
  have nn:∀ x,¬In AV.aA x:=fun x h=>by obtain⟨_,_,_,_,h⟩:=h;cases h
  have no:∀ x,x<H.nx+2->¬ In v x->¬ In w x:=fun x h1 h2 h=>(dw x h).elim h2 fun h=>by omega
  unfold qx0
  obtain⟨m,hm⟩:∃ m,cK=m+3:=⟨999997,by rw[dK]⟩
  rw[dI,hm]
  rw[n15]
  unfold qia
  simp only[go_sem,k1]
  refine qo3 (r:=a) (P:=fun x=>P x/\x<H.nx) (ca:=ca) (cb:=cb) (cc:=ca) (kd:=kd) (bl:=bl) (iha j (by omega)) hw.gl (Gl.nil 1 H1) (by omega) (by simp;omega) (by omega) (by omega) k1 kb1 (by rw[Nat.zero_mul,qb2,if_pos (by simp;omega),List.drop_zero,List.take_left' la]) aUH (fun x h=>absurd h (nn x))
   ⟨no _ (by omega) (fun h=>by have:=hv.lt h;omega),nn _⟩ ⟨no _ (by omega) (hP bl hPb),nn _⟩ (fun x hx=>no _ (by omega) (hP x hx.1)) (fun x _=>nn x) ?_
  intro w2 x2 H2 l2 xs2 hw2 nw2 hl2 f2 hx2 nx2
  rw[n15]
  unfold qia
  have no2:∀ x,x<H1.nx->¬ In w x->¬ In w2 x:=fun x h1 h2 h=>(nw2 x h).elim h2 fun h=>by omega
  have na0:¬ In w H.nx:=no _ (by omega) (fun h=>by have:=hv.lt h;omega)
  have nbl:¬ In w bl:=no _ (by omega) (hP bl hPb)
  have fw:∀ x,x<H1.nx->¬ In w x->H2.get x=H1.get x:=fun x h1 h2=>f2.get x h1 fun h=>h.elim h2 (nn x)
  have n2:=f2.nx
  have k2:=(fw _ (by omega) na0).trans k1
  have kb2:=(fw _ (by omega) nbl).trans kb1
  simp only[go_sem,k2]
  have aCZ:jK (fun x=>P x/\x<H.nx) H2 b cb:=aT5.iD f2 fun b h=>fun h'=>h'.elim (no _ (by omega) (hP b h.1)) (nn b)
  have l2n:l2.length=l.length+1+a.size:=by
   have:=congrArg List.length hl2
   simp only[List.length_map,List.length_append,List.length_cons,List.length_nil,qbw]at this
   omega
  refine qo3 (r:=b) (P:=fun x=>P x/\x<H.nx) (ca:=ca) (cb:=cb) (cc:=cb) (kd:=kd) (bl:=bl) (t:=1) (ihb j (by omega)) hw2 hx2 (by omega) (by omega) (by omega) (by omega) k2 kb2 (by rw[Nat.one_mul,qb2,if_pos (by simp;omega),List.drop_left' la,<-lb,List.take_length]) aCZ (fun x h=>(nx2 x h).2)
   ⟨no2 _ (by omega) na0,fun h=>by have:=(nx2 _ h).1;omega⟩ ⟨no2 _ (by omega) nbl,fun h=>by have:=(nx2 _ h).1;omega⟩ (fun x hx=>no2 _ (by omega) (no _ (by omega) (hP x hx.1))) (fun x hx h=>by have:=(nx2 _ h).1;omega) ?_
  intro w3 x3 H3 l3 xs3 hw3 nw3 hl3 f3 hx3 nx3
  rw[n15]
  unfold qia
  have k3:H3.get H.nx=aD 0 [.int .u8 (.ofNat kd),.str 0 0,.str 0 0,.sl bl 0 2 2 true]:=(f3.get _ (by omega) fun h=>h.elim (no2 _ (by omega) na0) fun h=>by have:=(nx2 _ h).1;omega).trans k2
  simp only[go_sem,k3]
  have l3n:l3.length=l2.length+b.size:=by
   have:=congrArg List.length hl3
   simp only[List.length_map,List.length_append,qbw]at this
   omega
  have hS:mP 5 jZ (In v) H H3 w3 l3:=by
   refine⟨hw3,?_,?_⟩
   ·refine(fH.then f2 fun c hc h=> ?_).then f3 fun c hc h=> ?_
    ·rcases h with h|h
     ·exact(dw c h).elim id fun h=>by omega
     ·simp_all
    ·rcases h with h|h
     ·exact(nw2 c h).elim (fun h=>(dw c h).elim id fun h=>by omega) fun h=>by omega
     ·have:=(nx2 c h).1;omega
   ·intro x hx
    rcases nw3 x hx with h|h
    ·rcases nw2 x h with h|h
     ·rcases dw x h with h|h
      ·exact .inl h
      ·omega
     ·omega
    ·omega
  refine(qvk (call:=C j) hS (i:=l.length) (by omega) ?_).mono ?_
  ·rcases hx3.is with⟨h,_⟩|⟨_,_,_,_,_,h,_⟩
   ·exact .inl h
   ·simp_all
  ·rintro r H4 ⟨l',h1,h2⟩
   refine⟨l',h1,?_⟩
   rw[h2,hl3,hl2]
   simp[Ru.nodes]
def fQ(kd:Nat)(s:SS)(n:Nd):Bool:=decide (n.k=kd)&&decide (n.rl=s)
def eU(r:Ru)(kd:Nat)(s:SS):Bool:=(r.nodes false).any (fQ kd s)
theorem qs4{call:Ev.Call}{l:List (Nd×AV)}{v:AV}{H:Hp}{kd:Nat}{s:SS}(hv:Rs 5 jZ H v l)(hb:l.length<=1000000){Q:AV->Hp->Prop}{q:Hp->R1}{qr:AV->Hp->R1}
  (hr:l.any (fun x=>fQ kd s x.1)=true->Ok (qr (.bool true) H) Q) (hq:l.any (fun x=>fQ kd s x.1)=false->Ok (q H) Q) :
  ∀(k i:Nat),i<=l.length->l.length-i<k->(l.take i).any (fun x=>fQ kd s x.1)=false ->
   Ok (q1e call qr q (.int .u8 (.ofNat kd)) s.v v k (iN i) H) Q
 |0,i,_,h,_=>by omega
 |k+1,i,hi,hk,hn=>by
  show Ok (zaj call _ _ _ _ _ (q1e call _ _ _ _ _ k) _ H) Q
  unfold zaj
  have hl:=hv.len
  by_cases hlt:i<l.length
  ·simp only[go_sem,hl,hlt]
   unfold zai
   obtain⟨b,o,e1,e2,_,e3,e4⟩:=hv.at' i hlt
   have r0:bT (H.get b) o= .val (.int .u8 (.ofNat l[i].1.k)):=e4 0 (by rw[wO];omega)
   have r1:bT (H.get b) (o+1)= .val (.str l[i].1.rl.n l[i].1.rl.a):=e4 1 (by rw[wO];omega)
   have hs:(l.take (i+1)).any (fun x=>fQ kd s x.1)=fQ kd s l[i].1:=by
    rw[List.take_succ_eq_append_getElem hlt,List.any_append,hn];simp
   unfold SS.v
   by_cases h1:l[i].1.k=kd
   ·have oH:=eq_true h1
    by_cases h2:l[i].1.rl.n=s.n/\l[i].1.rl.a=s.a
    ·have h2t:=eq_true h2
     have hh:fQ kd s l[i].1=true:=by unfold fQ;rw[decide_eq_true h1,decide_eq_true ((nI _ _).2 h2)];rfl
     simp only[go_sem,e1,r0,r1,oH,h2t]
     refine hr ?_
     rw[List.any_eq_true]
     exact⟨l[i],List.getElem_mem hlt,hh⟩
    ·have hh:fQ kd s l[i].1=false:=by unfold fQ;rw[decide_eq_false (fun h=>h2 ((nI _ _).1 h))];simp
     simp only[go_sem,e1,r0,r1,oH,h2]
     unfold zaf
     simp(disch:=omega) only[go_sem]
     exact qs4 hv hb hr hq k (i+1) (by omega) (by omega) (by rw[hs,hh])
   ·have hh:fQ kd s l[i].1=false:=by unfold fQ;rw[decide_eq_false h1];simp
    simp only[go_sem,e1,r0,h1]
    unfold zaf
    simp(disch:=omega) only[go_sem]
    exact qs4 hv hb hr hq k (i+1) (by omega) (by omega) (by rw[hs,hh])
  ·have he:i=l.length:=by omega
   simp only[go_sem,hl,hlt]
   rw[he,List.take_length]at hn
   exact hq hn
theorem zpm(hC:bC C){k:Nat}{r:Ru}(hk:r.depth+1<=k)(hs:r.size<=100000){H:Hp}{cs:List AV}{P:Nat->Prop}(hr:jK P H r cs)(kd:Nat)(s:SS) :
  Ok (C k (.f 30) [.agg cs,.int .u8 (.ofNat kd),s.v] H) fun v H'=>v= .bool (eU r kd s)/\Fm No H H':=by
 obtain⟨j,rfl⟩:∃ j,k=j+1:=⟨k-1,by omega⟩
 rw[(hC j).zAs]
 unfold zAs zru
 obtain⟨c0,c1,c2,c3,rfl⟩:=hr.four
 simp(disch:=omega) only[go_sem]
 have fX:Fm No H (aR H (aD 0 [c0,c1,c2,c3])):=by exact jW
 have nn:∀ x,¬In AV.aA x:=fun x h=>by obtain⟨_,_,_,_,h⟩:=h;cases h
 refine Ok.ve (q3c hC r j (by omega) .aA false _ (l:=[]) (Gl.nil 5 _) (hr.fm fX) (fun b _=>nn b) (by simp;omega)) ?_
 rintro w H1 ⟨l,hw,hl⟩
 have f1:Fm No H H1:=fX.then hw.fm fun c _ h=>absurd h (nn c)
 have hln:l.length=r.size:=by
  have:=congrArg List.length hl
  simpa [qbw] using this
 have hany:eU r kd s=l.any (fun x=>fQ kd s x.1):=by
  have hl':l.map Prod.fst=r.nodes false:=by simpa using hl
  unfold eU
  rw[<-hl',List.any_map];rfl
 unfold zop
 rw[dI]
 refine qs4 (hw.gl.rs wO) (by omega) (fun h=> ?_) (fun h=> ?_) cK 0 (Nat.zero_le _) (by rw[dK];omega) rfl
 ·exact Ok.ret ⟨by rw[hany,h],f1⟩
 ·unfold zah
  exact Ok.ret ⟨by rw[hany,h],f1⟩
structure iQ where
 name:SS
 types:List kF
 rule:Ru
structure vC where
 name:SS
 bG:List iQ
structure aY where
 r:iQ
 tv:AV
 cs:List AV
def gQ(g:aY):List AV:=[g.r.name.v,g.tv,g.cs.getD 0 .undef,g.cs.getD 1 .undef,g.cs.getD 2 .undef,g.cs.getD 3 .undef]
theorem qhk(g:aY):(gQ g).length=6:=rfl
structure pW(A B:Nat)(H:Hp)(rv:AV)(gs:List aY):Prop where
 gl:Gl 6 H rv gs.length (gs.flatMap gQ)
 tT:∀ b,In rv b->A<=b/\b<B
 ty:∀ g∈gs,Rs 2 tC H g.tv g.r.types/\(g.tv= .aA\/∃ b o n m e,g.tv= .sl b o n m e/\n<=m)/\∀ b,In g.tv b->A<=b/\b<B/\¬ In rv b
 ru:∀ g∈gs,jK (fun b=>A<=b/\b<B/\¬ In rv b) H g.r.rule g.cs
theorem pW.nil(A B:Nat)(H:Hp):pW A B H .aA []:=⟨Gl.nil 6 H,(fun b h=>by obtain⟨_,_,_,_,h⟩:=h;cases h),(fun g hg=>by cases hg),(fun g hg=>by cases hg)⟩
theorem pW.iD{A B:Nat}{S:Nat->Prop}{H H':Hp}{rv:AV}{gs:List aY}(h:pW A B H rv gs)(f:Fm S H H')(hs:∀ b,A<=b->b<B->¬ S b):pW A B H' rv gs :=
 ⟨h.gl.fm f fun b hb=>hs b (h.tT b hb).1 (h.tT b hb).2,h.tT,fun g hg=>⟨(h.ty g hg).1.iD f fun b hb=>hs b ((h.ty g hg).2.2 b hb).1 ((h.ty g hg).2.2 b hb).2.1,(h.ty g hg).2⟩,
  fun g hg=>(h.ru g hg).iD f fun b hb=>hs b hb.1 hb.2.1⟩
theorem pW.up{A B B':Nat}{H:Hp}{rv:AV}{gs:List aY}(h:pW A B H rv gs)(hb:B<=B'):pW A B' H rv gs :=
 ⟨h.gl,fun b x=>⟨(h.tT b x).1,Nat.lt_of_lt_of_le (h.tT b x).2 hb⟩,fun g hg=>⟨(h.ty g hg).1,(h.ty g hg).2.1,fun b x=>by have:=(h.ty g hg).2.2 b x;exact⟨this.1,by omega,this.2.2⟩⟩,
  fun g hg=>(h.ru g hg).mono fun b _ x=>⟨x.1,by omega,x.2.2⟩⟩
structure aS where
 name:SS
 gs:List aY
 rv:AV
 A:Nat
 B:Nat
def u6(g:aS):List AV:=[g.name.v,g.rv]
theorem qd6(g:aS):(u6 g).length=2:=rfl
def aS.sp(g:aS):vC:=⟨g.name,g.gs.map aY.r⟩
structure lN(H:Hp)(sv:AV)(l:List aS):Prop where
 gl:Gl 2 H sv l.length (l.flatMap u6)
 ord:l.Pairwise fun a b=>a.B<=b.A
 rel:∀ g∈l,pW g.A g.B H g.rv g.gs/\g.B<=H.nx
 dj:∀ g∈l,∀b,In sv b->¬(g.A<=b/\b<g.B)
theorem lN.no{H H':Hp}{sv:AV}{l:List aS}(h:lN H sv l)(f:Fm No H H'):lN H' sv l :=
 ⟨h.gl.no f,h.ord,fun g hg=>⟨(h.rel g hg).1.iD f fun _ _ _ h=>h,Nat.le_trans (h.rel g hg).2 f.nx⟩,h.dj⟩
theorem lN.iD{S:Nat->Prop}{H H':Hp}{sv:AV}{l:List aS}(h:lN H sv l)(f:Fm S H H')(hs:∀ b,In sv b->¬ S b)(hg:∀ g∈l,∀b,g.A<=b->b<g.B->¬ S b):lN H' sv l :=
 ⟨h.gl.fm f hs,h.ord,fun g hgl=>⟨(h.rel g hgl).1.iD f (hg g hgl),Nat.le_trans (h.rel g hgl).2 f.nx⟩,h.dj⟩
theorem lN.push{S:Nat->Prop}{H H':Hp}{sv oW:AV}{l:List aS}(h:lN H sv l)(f:Fm S H H')(hg:∀ g∈l,∀b,g.A<=b->b<g.B->¬ S b)(name:SS)
  (gl:Gl 2 H' oW (l.length+1) (l.flatMap u6++[name.v,.aA])) (nw:∀ b,In oW b->H.nx<=b):lN H' oW (l++[⟨name,[],.aA,H'.nx,H'.nx⟩]):=by
 refine⟨?_,?_,?_,?_⟩
 ·rw[List.length_append,List.flatMap_append,List.flatMap_singleton];exact gl
 ·rw[List.pairwise_append]
  refine⟨h.ord,List.pairwise_singleton _ _,fun a ha b hb=> ?_⟩
  rw[List.mem_singleton]at hb
  subst hb
  exact Nat.le_trans (h.rel a ha).2 f.nx
 ·intro g hgl
  rw[List.mem_append,List.mem_singleton]at hgl
  rcases hgl with hgl|rfl
  ·exact⟨(h.rel g hgl).1.iD f (hg g hgl),Nat.le_trans (h.rel g hgl).2 f.nx⟩
  ·exact⟨pW.nil _ _ _,Nat.le_refl _⟩
 ·intro g hgl b hb
  rw[List.mem_append,List.mem_singleton]at hgl
  rcases hgl with hgl|rfl
  ·have:=nw b hb
   have:=(h.rel g hgl).2
   omega
  ·simp
def kP(L:List (List Nat))(n:Nat):iQ:=⟨fC n,kH L n,(eB L n 6 2 false).1⟩
structure OfI(L:List (List Nat))(v:AV)(H0 H:Hp)(cb sb:Nat)(sv:AV)(l:List aS)(g:aS):Prop where
 cbk:vX H cb v
 sbk:H.get sb=aD 0 [sv]
 sbl:H0.nx<=sb/\sb<g.A/\sb<H.nx
 cbl:cb<g.A
 ne:cb<sb\/sb<cb
 ns:¬ In sv sb/\¬ In sv cb
 sK:∀ b,In sv b->H0.nx<=b/\b<g.A
 sbd:∀ x∈l,¬(x.A<=sb/\sb<x.B)
 m:lN H sv (l++[g])
 an:∀ x∈l++[g],H0.nx<=x.A
 ax:g.A<=H.nx
 fm:Fm No H0 H
theorem zc9(X:List AV)(a b c:AV):bD (X++[a,b]) (X.length+1) [c]=X++[a,c]:=by
 unfold bD
 rw[List.take_length_add_append,Nat.add_assoc,List.drop_length_add_append]
 simp
theorem zkk(hC:bC C){j:Nat}(hj:20<=j){L:List (List Nat)}{v:AV}{n:Nat}(hn:n<bF L){H0 H:Hp}{cb sb:Nat}{sv:AV}{l:List aS}{g:aS}(hv:gJ H0 v L)(hI:OfI L v H0 H cb sb sv l g)
  (hl:l.length=1+n / 4) (hgs:g.gs.length<=12) {G:AV->Hp->R1} {Q:AV->Hp->Prop}
  (hG:∀(H':Hp) (rv':AV) (rg:aY),rg.r=kP L n->OfI L v H0 H' cb sb sv l ⟨g.name,g.gs++[rg],rv',g.A,H'.nx⟩->Ok (G (iN ((n+1))) H') Q) :
  Ok (qij (C j) G (.ptr cb 0) (.ptr sb 0) (iN n) H) Q:=by
 have hm:bF L<=12:=Nat.min_le_right _ _
 have hvH:=hv.fm hI.fm
 rw[qn7]
 unfold qrj
 have e0:=hI.cbk.is
 simp only[go_sem,e0]
 refine Ok.ve (zss hC 6 j (by omega) 2 1 false H (by omega) (by omega) hvH ⟨hn,hm,fun h=>by cases h⟩) ?_
 rintro _ H1 ⟨cs,rfl,hcs,f1⟩
 obtain⟨c0,c1,c2,c3,rfl⟩:=hcs.four
 have n1:=f1.nx
 have hsb:=hI.sbl
 have s1:=(f1.keep hsb.2.2).trans hI.sbk
 have m1:=hI.m.no f1
 have hix:1+n / 4<(l++[g]).length:=by simp;omega
 obtain⟨b,o,i1,i2,i3,i4,i5⟩:=(m1.gl.rs qd6).at' (1+n / 4) hix
 have hlast:(l++[g])[1+n / 4]=g:=by
  rw[List.getElem_append_right (by omega)];simp[hl]
 rw[hlast]at i4 i5
 have r1:bT (H1.get b) (o+1)= .val g.rv:=i5 1 (by rw[qd6];omega)
 have cl:=hI.cbk.lt
 have aJV:cb<H1.nx:=by omega
 have k1:=(hI.cbk.fm f1).is
 simp(disch:=first|omega|exact ti rfl|(simp only[np,nq];first|done|omega)) only[go_sem,reduceAdd,reduceLeDiff,s1,i1,r1,k1]
 have er:nP 64 g.rv g.rv=true:=by
  refine qb7 ?_ 63
  rcases(m1.rel g (by simp)).1.gl.is with⟨h,_⟩|⟨_,_,_,_,_,h,_⟩<;>(rw[h];rfl)
 have ev:nP 64 (.agg [v]) (.agg [v])=true:=qmt _ (by unfold Tr;rw[List.all_cons,hvH.flat];rfl)
 have ec:nP 64 (.agg [c0,c1,c2,c3]) (.agg [c0,c1,c2,c3])=true:=qmt _ (by unfold Tr;rw[hcs.flat];rfl)
 have fX:Fm No H1 ⟨((aR H1 (aD 0 [.int .u8 (.ofNat 0),.str 0 0,.str 0 0,.aA])).put H1.nx (aD 0 [c0,c1,c2,c3])).t,H1.nx+1+17⟩:=by(repeat(first|exact Fm.refl _ _|assumption|refine Fm.push ?_ _|refine Fm.uF ?_ (by(first|omega|(simp only[np,nq];omega)))|refine Fm.aM ?_ _ _ (by(first|omega|(simp only[np,nq];omega)))))
 refine Ok.lX (quy hC (k:=j) (by omega) n (by omega) _) ?_
 rintro _ H3 ⟨rfl,f3⟩
 have n3:H1.nx+1+17<=H3.nx:=f3.nx
 have q3:H3.get H1.nx=aD 0 [c0,c1,c2,c3]:=(f3.keep (show H1.nx<H1.nx+1+17 by omega)).trans (by simp only[go_sem])
 have f13:=fX.trans f3
 have k3:=(f13.keep aJV).trans k1
 have r3:bT (H3.get b) (o+1)= .val g.rv:=by rw[f13.keep i2];exact r1
 unfold SS.v
 simp only[go_sem,seval,q3,k3,r3,er,ev,ec]
 refine Ok.lX (q10 hC (k:=j) (by omega) ((hvH.fm f1).fm f13) hn) ?_
 intro tv H4 ht
 have f4:=ht.fm
 have n4:=f4.nx
 have q4:=(f4.keep (show H1.nx<H3.nx by omega)).trans q3
 have k4:=(f4.keep (by omega)).trans k3
 have r4:bT (H4.get b) (o+1)= .val g.rv:=by rw[f4.keep (by omega)];exact r3
 have htl:0<(kH L n).length:=by unfold kH rG;simp
 obtain⟨tb,to,te,htv⟩:∃ tb to te,tv= .sl tb to (kH L n).length (kH L n).length te:=by
  rcases ht.gl.is with⟨_,h⟩|⟨tb,to,te,_,_,h,_⟩
  ·omega
  ·exact⟨tb,to,te,h⟩
 subst htv
 simp only[go_sem,seval,q4,r4,er,ec]
 have gB:g.B<=H.nx:=(hI.m.rel g (by simp)).2
 have ax:=hI.ax
 have fV:Fm No H1 (H4.put (H1.nx+1+12) (aD 0 [.str (fC n).n (fC n).a,.sl tb to (kH L n).length (kH L n).length te,c0,c1,c2,c3])):=(f13.trans f4).aM _ _ (by omega)
 have aTK:=(m1.rel g (by simp)).1.iD fV fun _ _ _ h=>h
 obtain⟨H5,e5,g5,q5,f5,n5⟩:=aTK.gl.append (k:=1) (w:=104) (x:=[.str (fC n).n (fC n).a,.sl tb to (kH L n).length (kH L n).length te,c0,c1,c2,c3]) (by omega) rfl (by omega) (by omega)
 simp only[nq]at e5 g5 q5 n5
 refine Ok.y7 e5 ?_
 have rin:∀ x,In g.rv x->g.A<=x/\x<g.B:=fun x hx=>(m1.rel g (by simp)).1.tT x hx
 have sK:=hI.sK
 have f15:Fm (In g.rv) H1 H5:=(fV.mono fun _ _ h=>absurd h id).then f5 fun _ _ h=>h
 have gl5:Gl 2 H5 sv (l++[g]).length ((l++[g]).flatMap u6):=m1.gl.fm f15 fun x hx h=>by have:=(sK x hx).2;have:=(rin x h).1;omega
 obtain⟨b',o',H6,i6,e6,g6,f6,n6⟩:=gl5.set1 hix (j:=1) (by omega) (.sl H4.nx 0 (g.gs.length+1) (g.gs.length+1) false)
 rw[i1]at i6
 injection i6 with i6
 injection i6 with i6 i7
 subst i6 i7
 simp only[go_sem,seval,e6]
 rw[qn9]
 unfold qrk
 simp(disch:=omega) only[go_sem]
 have f16:Fm (fun x=>In g.rv x\/In sv x) H1 H6:=(f15.mono fun _ _ h=> .inl h).then f6 fun _ _ h=> .inr h
 have n16:H1.nx<=H6.nx:=f16.nx
 have hlow:∀ x,x<g.A->¬ In sv x->x<H1.nx->H6.get x=H1.get x:=fun x h1 h2 h3=>f16.get x h3 fun h=>h.elim (fun h=>by have:=(rin x h).1;omega) h2
 refine hG H6 (.sl H4.nx 0 (g.gs.length+1) (g.gs.length+1) false) ⟨kP L n,.sl tb to (kH L n).length (kH L n).length te,[c0,c1,c2,c3]⟩ rfl ⟨⟨by omega,(hlow cb hI.cbl hI.ns.2 aJV).trans k1⟩,(hlow sb hsb.2.1 hI.ns.1 (by omega)).trans s1,⟨hsb.1,hsb.2.1,by omega⟩,hI.cbl,hI.ne,hI.ns,hI.sK,hI.sbd,?_,?_,by show g.A<=H6.nx;omega,?_⟩
 ·have nR:∀ x,In (.sl H4.nx 0 (g.gs.length+1) (g.gs.length+1) false) x->x=H4.nx:=fun x hx=>by
   obtain⟨_,_,_,_,hx⟩:=hx
   cases hx;rfl
  refine⟨?_,?_,?_,?_⟩
  ·rw[List.length_append,List.flatMap_append,List.flatMap_singleton]at g6 ⊢
   rw[show(1+n / 4)*2+1=(l.flatMap u6).length+1 by
    have:∀ q:List aS,(q.flatMap u6).length=q.length*2:=fun q=>by
     induction q with
     |nil=>rfl
     |cons a q ih=>rw[List.flatMap_cons,List.length_append,ih,qd6,List.length_cons];omega
    rw[this,hl]]at g6
   unfold u6 at g6 ⊢
   rw[zc9]at g6
   exact g6
  ·have ho:=m1.ord
   rw[List.pairwise_append]at ho ⊢
   refine⟨ho.1,List.pairwise_singleton _ _,fun a ha c hc=> ?_⟩
   rw[List.mem_singleton]at hc
   subst hc
   exact ho.2.2 a ha g (by simp)
  ·intro x hx
   rw[List.mem_append,List.mem_singleton]at hx
   rcases hx with hx|rfl
   ·have ho:=m1.ord
    rw[List.pairwise_append]at ho
    have hxg:=ho.2.2 x hx g (by simp)
    refine⟨(m1.rel x (by simp[hx])).1.iD f16 fun c h1 h2 h=> ?_,Nat.le_trans (m1.rel x (by simp[hx])).2 n16⟩
    rcases h with h|h
    ·have:=(rin c h).1;omega
    ·exact m1.dj x (by simp[hx]) c h ⟨h1,h2⟩
   ·have hr:=(m1.rel g (by simp)).1
    refine⟨⟨?_,?_,?_,?_⟩,Nat.le_refl _⟩
    ·show Gl 6 H6 _ (g.gs++[_]).length ((g.gs++[_]).flatMap gQ)
     rw[List.length_append,List.flatMap_append,List.flatMap_singleton]
     exact g5.fm f6 fun c hc h=>by have:=nR c hc;have:=(sK c h).2;omega
    ·intro c hc
     have:=nR c hc
     show g.A<=c/\c<H6.nx
     omega
    ·intro y hy
     show _/\_/\∀ c,In y.tv c->g.A<=c/\c<H6.nx/\_
     rw[List.mem_append,List.mem_singleton]at hy
     rcases hy with hy|rfl
     ·obtain⟨h1,h2,h3⟩:=hr.ty y hy
      refine⟨h1.iD f16 fun c hc h=> ?_,h2,fun c hc=>⟨(h3 c hc).1,by have:=(h3 c hc).2.1;omega,fun h=>by have:=nR c h;have:=(h3 c hc).2.1;omega⟩⟩
      rcases h with h|h
      ·exact(h3 c hc).2.2 h
      ·have:=(sK c h).2;have:=(h3 c hc).1;omega
     ·have tin:∀ c,In (.sl tb to (kH L n).length (kH L n).length te) c->H3.nx<=c/\c<H4.nx:=fun c hc=>⟨ht.nw c hc,ht.gl.lt hc⟩
      refine⟨?_,.inr ⟨_,_,_,_,_,rfl,Nat.le_refl _⟩,fun c hc=>⟨by have:=(tin c hc).1;omega,by have:=(tin c hc).2;omega,fun h=>by have:=nR c h;have:=(tin c hc).2;omega⟩⟩
      have aVV:Fm (fun x=>x=H1.nx+1+12) H4 (H4.put (H1.nx+1+12) (aD 0 [.str (fC n).n (fC n).a,.sl tb to (kH L n).length (kH L n).length te,c0,c1,c2,c3])):=(Fm.refl _ _).put _ _ fun _=>rfl
      refine(((ht.rs qhe).iD aVV fun c hc h=> ?_).iD f5 fun c hc h=> ?_).iD f6 fun c hc h=> ?_
      ·have:=(tin c hc).1;omega
      ·have:=(tin c hc).1;have:=(rin c h).2;omega
      ·have:=(tin c hc).1;have:=(sK c h).2;omega
    ·intro y hy
     show jK (fun c=>g.A<=c/\c<H6.nx/\_) H6 _ _
     rw[List.mem_append,List.mem_singleton]at hy
     rcases hy with hy|rfl
     ·refine((hr.ru y hy).iD f16 fun c hc h=> ?_).mono fun c _ hc=>⟨hc.1,by omega,fun h=>by have:=nR c h;omega⟩
      rcases h with h|h
      ·exact hc.2.2 h
      ·have:=(sK c h).2;omega
     ·have h1:jK (fun c=>H.nx<=c/\c<H1.nx) H1 (eB L n 6 2 false).1 [c0,c1,c2,c3]:=hcs.mono fun c h1 h2=>⟨h2,h1⟩
      refine(h1.iD f16 fun c hc h=> ?_).mono fun c _ hc=>⟨by omega,by omega,fun h=>by have:=nR c h;omega⟩
      rcases h with h|h
      ·have:=(rin c h).2;omega
      ·have:=(sK c h).2;omega
  ·intro x hx c hc
   rw[List.mem_append,List.mem_singleton]at hx
   rcases hx with hx|rfl
   ·exact m1.dj x (by simp[hx]) c hc
   ·have:=(sK c hc).2
    show ¬(g.A<=c/\_)
    omega
 ·intro x hx
  rw[List.mem_append,List.mem_singleton]at hx
  rcases hx with hx|rfl
  ·exact hI.an x (by simp[hx])
  ·exact hI.an g (by simp)
 ·refine(hI.fm.trans f1).then f16 fun c hc h=> ?_
  rcases h with h|h
  ·have:=(rin c h).1;have:=hI.an g (by simp);omega
  ·have:=(sK c h).1;omega
theorem zdx(hC:bC C){j:Nat}(hj:20<=j){L:List (List Nat)}{v:AV}{n:Nat}(hn:n<bF L)(h4:n%4=0){H0 H:Hp}{cb sb:Nat}{sv:AV}{l:List aS}{g:aS}(hI:OfI L v H0 H cb sb sv l g)
  (hl:l.length<=1000) {G:AV->Hp->R1} {Q:AV->Hp->Prop}
  (hG:∀(H':Hp) (oW:AV) (A:Nat),OfI L v H0 H' cb sb oW (l++[g]) ⟨bX (n / 4),[],.aA,A,A⟩->Ok (qij (C j) G (.ptr cb 0) (.ptr sb 0) (iN n) H') Q) :
  Ok (qrr (C j) G (.ptr cb 0) (.ptr sb 0) (iN n) H) Q:=by
 have hm:bF L<=12:=Nat.min_le_right _ _
 rw[qgs]
 unfold qg8
 have hsb:=hI.sbl
 have s0:=hI.sbk
 have m0:=hI.m
 have es:nP 64 sv sv=true:=by
  refine qb7 ?_ 63
  rcases m0.gl.is with⟨h,_⟩|⟨_,_,_,_,_,h,_⟩<;>(rw[h];rfl)
 simp(disch:=omega) only[go_sem,s0,h4]
 have fX:Fm No H ⟨H.t,H.nx+10⟩:=by(repeat(first|exact Fm.refl _ _|assumption|refine Fm.push ?_ _|refine Fm.uF ?_ (by(first|omega|(simp only[np,nq];omega)))|refine Fm.aM ?_ _ _ (by(first|omega|(simp only[np,nq];omega)))))
 refine Ok.lX (qju hC (k:=j) (by omega) (n / 4) (by omega) _) ?_
 rintro _ H1 ⟨rfl,f1⟩
 have f01:=fX.trans f1
 have n1:H.nx+10<=H1.nx:=f1.nx
 have s1:=(f01.keep hsb.2.2).trans s0
 unfold SS.v
 simp only[go_sem,seval,s1,es]
 have fV:Fm No H (H1.put (H.nx+6) (aD 0 [.str (bX (n / 4)).n (bX (n / 4)).a,.aA])):=f01.aM _ _ (by omega)
 have mV:=m0.no fV
 obtain⟨H2,e2,g2,q2,f2,n2⟩:=mV.gl.append (k:=1) (w:=40) (x:=[.str (bX (n / 4)).n (bX (n / 4)).a,.aA]) (by omega) rfl (by simp;omega) (by simp;omega)
 simp only[nq]at e2 g2 q2 n2
 have sb2:H2.get sb=aD 0 [sv]:=(f2.get sb (by simp only[nq];omega) hI.ns.1).trans ((fV.keep hsb.2.2).trans s0)
 refine Ok.y7 e2 ?_
 simp only[go_sem,seval,sb2]
 have fS:Fm (fun x=>x=sb) H2 (H2.put sb (aD 0 [.sl H1.nx 0 ((l++[g]).length+1) ((l++[g]).length+1) false])):=(Fm.refl _ _).put _ _ fun _=>rfl
 have qM:Fm (In sv) H H2:=(fV.mono fun _ _ h=>absurd h id).then f2 fun _ _ h=>h
 have fA:Fm (fun x=>In sv x\/x=sb) H (H2.put sb (aD 0 [.sl H1.nx 0 ((l++[g]).length+1) ((l++[g]).length+1) false])):=(qM.mono fun _ _ h=> .inl h).then fS fun _ _ h=> .inr h
 have nR:∀ x,In (.sl H1.nx 0 ((l++[g]).length+1) ((l++[g]).length+1) false) x->x=H1.nx:=fun x hx=>by
  obtain⟨_,_,_,_,hx⟩:=hx
  cases hx;rfl
 have sK:=hI.sK
 have cl:=hI.cbk.lt
 have nsb:∀ x∈l++[g],¬(x.A<=sb/\sb<x.B):=fun x hx=>by
  rw[List.mem_append,List.mem_singleton]at hx
  rcases hx with hx|rfl
  ·exact hI.sbd x hx
  ·omega
 refine hG _ (.sl H1.nx 0 ((l++[g]).length+1) ((l++[g]).length+1) false) H2.nx ⟨⟨?_,?_⟩,eP _ _ _,⟨hsb.1,?_,?_⟩,?_,hI.ne,⟨fun h=> ?_,fun h=> ?_⟩,fun x hx=> ?_,nsb,?_,fun x hx=> ?_,Nat.le_refl _,?_⟩
 ·show cb<H2.nx;omega
 ·rw[dZ _ _ _ _ (by have:=hI.ne;omega)]
  exact(qM.get cb cl hI.ns.2).trans hI.cbk.is
 ·show sb<H2.nx;omega
 ·show sb<H2.nx;omega
 ·show cb<H2.nx;omega
 ·have:=nR _ h;omega
 ·have:=nR _ h;omega
 ·have h0:=hI.fm.nx
  have:=nR _ hx
  show _/\x<H2.nx
  omega
 ·refine m0.push fA (fun x hx b h1 h2 h=> ?_) _ ?_ fun b hb=>by have:=nR _ hb;omega
  ·rcases h with h|rfl
   ·exact m0.dj x hx b h ⟨h1,h2⟩
   ·exact nsb x hx ⟨h1,h2⟩
  ·exact g2.fm fS fun b hb h=>by have:=nR _ hb;omega
 ·rw[List.mem_append,List.mem_singleton]at hx
  rcases hx with hx|rfl
  ·exact hI.an x hx
  ·have h0:=hI.fm.nx
   show H0.nx<=H2.nx
   omega
 ·refine hI.fm.then fA fun c hc h=> ?_
  rcases h with h|rfl
  ·have:=(sK c h).1;omega
  ·omega
def spN(L:List (List Nat))(i n:Nat):vC:=⟨bX i,(rg (4*i) n).map (kP L)⟩
def spF(L:List (List Nat))(i:Nat):vC:=spN L i (4*i+4)
def pre(L:List (List Nat))(q:Nat):List vC:=⟨sU,[]⟩::(List.range q).map (spF L)
theorem zky(L:List (List Nat))(q:Nat):pre L (q+1)=pre L q++[spF L q]:=by
 unfold pre
 rw[List.range_succ,List.map_append];rfl
def Mid(L:List (List Nat))(n:Nat)(l:List aS)(g:aS):Prop:=∃ q,l.map aS.sp=pre L q/\g.sp=spN L q n/\4*q<=n/\n<4*q+4
def St(L:List (List Nat))(n:Nat)(l:List aS)(g:aS):Prop:=(n=0/\l=[]/\g.sp=⟨sU,[]⟩)\/∃ q,l.map aS.sp=pre L q/\g.sp=spN L q n/\4*q<n/\n<=4*q+4
theorem Mid.len{L:List (List Nat)}{n:Nat}{l:List aS}{g:aS}(h:Mid L n l g):l.length=1+n / 4/\g.gs.length<=4:=by
 obtain⟨q,h1,h2,h3,h4⟩:=h
 have e1:=congrArg List.length h1
 have e2:=congrArg (fun s=>s.bG.length) h2
 simp only[List.length_map,pre,List.length_cons,List.length_range,aS.sp,spN,qjd]at e1 e2
 omega
theorem Mid.rel{L:List (List Nat)}{n:Nat}{l:List aS}{g:aS}(h:Mid L n l g){rv:AV}{A B:Nat}{r:aY}(hr:r.r=kP L n):St L (n+1) l ⟨g.name,g.gs++[r],rv,A,B⟩:=by
 obtain⟨q,h1,h2,h3,h4⟩:=h
 refine .inr ⟨q,h1,?_,by omega,by omega⟩
 unfold aS.sp spN at *
 injection h2 with e1 e2
 rw[qiq h3,List.map_append,List.map_append,e1,e2]
 simp[hr]
theorem St.push{L:List (List Nat)}{n:Nat}{l:List aS}{g:aS}(h:St L n l g)(h4:n%4=0)(A:Nat):Mid L n (l++[g]) ⟨bX (n / 4),[],.aA,A,A⟩:=by
 rcases h with⟨rfl,rfl,h⟩|⟨q,h1,h2,h3,h5⟩
 ·exact⟨0,by simp[pre,h],rfl,by omega,by omega⟩
 ·have hn:n=4*q+4:=by omega
  subst hn
  refine⟨q+1,by rw[List.map_append,h1,zky,List.map_singleton,h2];rfl,?_,by omega,by omega⟩
  unfold aS.sp spN
  rw[show(4*q+4) / 4=q+1 by omega,show 4*q+4=4*(q+1)by omega,qsj]
  rfl
theorem St.mid{L:List (List Nat)}{n:Nat}{l:List aS}{g:aS}(h:St L n l g)(h4:¬ n%4=0):Mid L n l g:=by
 rcases h with⟨rfl,_,_⟩|⟨q,h1,h2,h3,h5⟩
 ·omega
 ·exact⟨q,h1,h2,by omega,by omega⟩
theorem St.len{L:List (List Nat)}{n:Nat}{l:List aS}{g:aS}(h:St L n l g)(hn:n<=12):l.length<=4:=by
 rcases h with⟨rfl,rfl,_⟩|⟨q,h1,h2,h3,h5⟩
 ·simp
 ·have e1:=congrArg List.length h1
  simp only[List.length_map,pre,List.length_cons,List.length_range]at e1
  omega
theorem zd9(hC:bC C){j:Nat}(hj:20<=j){L:List (List Nat)}{v:AV}{H0:Hp}{cb sb:Nat}(hv:gJ H0 v L){Q:AV->Hp->Prop}{q:Hp->R1}
  (hq:∀(H:Hp) (sv:AV) (l:List aS) (g:aS),OfI L v H0 H cb sb sv l g->St L (bF L) l g->Ok (q H) Q) :
  ∀(k n:Nat) (l:List aS) (g:aS) (sv:AV) (H:Hp),n<=bF L->bF L-n<k->OfI L v H0 H cb sb sv l g->St L n l g ->
   Ok (qih (C j) q (.ptr cb 0) (.ptr sb 0) k (iN n) H) Q
 |0,n,_,_,_,_,_,h,_,_=>by omega
 |k+1,n,l,g,sv,H,hi,hk,hI,hS=>by
  show Ok (qyo (C j) _ _ _ (qih (C j) _ _ _ k) _ H) Q
  unfold qyo
  have hm:bF L<=12:=Nat.min_le_right _ _
  have e0:=hI.cbk.is
  simp only[go_sem,e0]
  refine Ok.ve (qix hC (k:=j) (by omega) (hv.fm hI.fm)) ?_
  rintro _ H2 ⟨rfl,f2⟩
  have hI2:OfI L v H0 H2 cb sb sv l g:=⟨hI.cbk.fm f2,(f2.keep hI.sbl.2.2).trans hI.sbk,⟨hI.sbl.1,hI.sbl.2.1,Nat.lt_of_lt_of_le hI.sbl.2.2 f2.nx⟩,hI.cbl,hI.ne,hI.ns,hI.sK,hI.sbd,hI.m.no f2,hI.an,Nat.le_trans hI.ax f2.nx,hI.fm.trans f2⟩
  by_cases hlt:n<bF L
  ·simp only[go_sem,hlt]
   have next:∀(l:List aS) (g:aS) (sv:AV) (H:Hp),OfI L v H0 H cb sb sv l g->Mid L n l g->Ok (qij (C j) (qih (C j) q (.ptr cb 0) (.ptr sb 0) k) (.ptr cb 0) (.ptr sb 0) (iN n) H) Q:=by
    intro l g sv H hI hM
    refine zkk hC hj hlt hv hI hM.len.1 (by have:=hM.len.2;omega) fun H' rv' rg hr hI'=> ?_
    exact zd9 hC hj hv hq k (n+1) l _ sv H' (by omega) (by omega) hI' (hM.rel hr)
   by_cases h4:n%4=0
   ·refine zdx hC hj hlt h4 hI2 (by have:=hS.len (by omega);omega) fun H' oW A hI'=> ?_
    exact next _ _ _ _ hI' (hS.push h4 A)
   ·rw[qgs]
    unfold qg8
    simp(disch:=omega) only[go_sem,h4]
    exact next _ _ _ _ hI2 (hS.mid h4)
  ·have he:n=bF L:=by omega
   subst he
   simp only[go_sem,hlt]
   exact hq H2 sv l g hI2 hS
theorem Gl.sub{z n:Nat}{H:Hp}{v:AV}{l:List AV}(h:Gl z H v n l){i:Nat}(hi:i<n):∃ b o,aL z v (iN i)= .val (.ptr b o)/\b<H.nx/\In v b/\∀ s k,s+k<=z->iZ (H.get b) (o+s) k=some ((((l.drop (i*z)).take z).drop s).take k):=by
 have hl:=h.len
 rcases h.is with⟨rfl,rfl⟩|⟨b,o,e,q,L,rfl,h1,h2,h3,h4,h5⟩
 ·omega
 ·have hm:i*z+z<=n*z:=by
   have:(i+1)*z<=n*z:=Nat.mul_le_mul_right z hi
   rw[Nat.add_mul,Nat.one_mul]at this;exact this
  have hL:o+n*z=L.length:=by rw[<-h3,List.length_drop]at hl;omega
  refine⟨b,o+i*z,sP _ _ _ _ _ _ _ _ hi,h5,⟨_,_,_,_,rfl⟩,fun s k hs=> ?_⟩
  have e2:((l.drop (i*z)).take z).drop s=(L.drop (o+i*z+s)).take (z-s):=by
   rw[List.drop_take,<-h3,List.drop_drop,List.drop_drop,Nat.add_assoc]
  rw[e2,List.take_take,Nat.min_eq_left (by omega),h1,qb2,if_pos (by omega)]
theorem pW.at{A B:Nat}{H:Hp}{rv:AV}{gs:List aY}(h:pW A B H rv gs){i:Nat}(hi:i<gs.length) :
  ∃b o,aL 6 rv (iN i)= .val (.ptr b o)/\b<H.nx/\In rv b/\bT (H.get b) o= .val (.str gs[i].r.name.n gs[i].r.name.a)/\bT (H.get b) (o+1)= .val gs[i].tv/\iZ (H.get b) (o+2) 4=some gs[i].cs/\iZ (H.get b) o 6=some (gQ gs[i]):=by
 obtain⟨b,o,h1,h2,h3,h4⟩:=h.gl.sub hi
 obtain⟨b',o',g1,_,_,g4,g5⟩:=(h.gl.rs qhk).at' i hi
 rw[h1]at g1
 injection g1 with g1
 injection g1 with g1 g2
 subst g1 g2
 refine⟨b,o,h1,h2,h3,g5 0 (by rw[qhk];omega),g5 1 (by rw[qhk];omega),?_,g4⟩
 rw[h4 2 4 (by omega),qmn qhk gs i hi]
 obtain⟨c0,c1,c2,c3,hc⟩:=(h.ru gs[i] (List.getElem_mem hi)).four
 unfold gQ
 rw[hc];rfl
def qr7(bG:List iQ)(r:iQ):Bool:=eU r.rule 1 sE||bG.any fun x=>eU x.rule 3 r.name
theorem qlf(hC:bC C){j:Nat}(hj:20<=j){A B:Nat}{rv:AV}{gs:List aY}{H0:Hp}(hI:pW A B H0 rv gs)(hlen:gs.length<=1000)(hd:∀ g∈gs,g.r.rule.depth<=12/\g.r.rule.size<=10000){kk:Nat}(hkk:kk<gs.length)
  {u0:Bool} {Q:AV->Hp->Prop} {q:AV->Hp->R1} (hq:∀ H,Fm No H0 H->Ok (q (.bool (u0||gs.any fun x=>eU x.r.rule 3 gs[kk].r.name)) H) Q) :
  ∀(k i:Nat) (u:Bool) (H:Hp),i<=gs.length->gs.length-i<k->Fm No H0 H->u=(u0||(gs.take i).any fun x=>eU x.r.rule 3 gs[kk].r.name) ->
   Ok (qk3 (C j) q rv (iN kk) k (.bool u) (iN i) H) Q
 |0,i,_,_,_,h,_,_=>by omega
 |k+1,i,u,H,hi,hk,hf,hu=>by
  show Ok (qyp (C j) _ _ _ (qk3 (C j) _ _ _ k) _ _ H) Q
  unfold qyp
  have hIH:=hI.iD hf fun _ _ _ h=>h
  have hl:=hIH.gl.cO
  by_cases hlt:i<gs.length
  ·simp only[go_sem,hl,hlt]
   rw[qod]
   unfold qro
   have hs:((gs.take (i+1)).any fun x=>eU x.r.rule 3 gs[kk].r.name)=(((gs.take i).any fun x=>eU x.r.rule 3 gs[kk].r.name)||eU gs[i].r.rule 3 gs[kk].r.name):=by
    rw[List.take_succ_eq_append_getElem hlt,List.any_append];simp
   cases u with
   |true =>
    rw[qik]
    unfold qjs
    simp(disch:=omega) only[go_sem]
    refine qlf hC hj hI hlen hd hkk hq k (i+1) true H (by omega) (by omega) hf ?_
    rw[hs,<-Bool.or_assoc,<-hu];rfl
   |false =>
    obtain⟨b,o,e1,e2,_,_,_,e6,_⟩:=hIH.at hlt
    obtain⟨b',o',g1,g2,_,g4,_,_,_⟩:=hIH.at hkk
    simp only[go_sem,e1,e6,g1,g4]
    refine Ok.lX (zpm hC (k:=j) (r:=gs[i].r.rule) (by have:=(hd _ (List.getElem_mem hlt)).1;omega) (by have:=(hd _ (List.getElem_mem hlt)).2;omega) (hIH.ru _ (List.getElem_mem hlt)) 3 gs[kk].r.name) ?_
    rintro _ H2 ⟨rfl,f2⟩
    rw[qik]
    unfold qjs
    simp(disch:=omega) only[go_sem]
    refine qlf hC hj hI hlen hd hkk hq k (i+1) _ H2 (by omega) (by omega) (hf.trans f2) ?_
    simp_all
  ·have he:i=gs.length:=by omega
   simp only[go_sem,hl,hlt]
   simp_all
end Go.Di
end
