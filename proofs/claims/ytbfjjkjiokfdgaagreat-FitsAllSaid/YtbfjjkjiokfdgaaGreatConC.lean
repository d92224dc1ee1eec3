/-
 For countersign/countersignlaw20.FitsAll: functions in direct style, their contracts, and the plain mathematics, part 3 of 10. No conditions beyond those that each theorem states.
-/
import Derived.Test.YtbfjjkjiokfdgaaGreatEv4
import Derived.Test.YtbfjjkjiokfdgaaGreatConB
import Derived.Test.YtbfjjkjiokfdgaaGreatConA
set_option linter.unusedSimpArgs false
set_option linter.unusedVariables false
open Nat renaming reduceAdd->rB,reduceMul->rI,reduceSub->rK,reduceLeDiff->rL,reduceEqDiff->rN,reduceShiftRight->rS,reduceAnd->r6
noncomputable section
namespace Go.Di
open Go.Ev
variable {P:Program} {d n:Nat} {O:Ev.Call}
theorem pS{α:Type}{c:Code}{K:Kt d}{X Y:α}(e:X=Y)(f:α->TT AV d->pH)(h:Lk P d n O c K (f Y)):Lk P d n O c K (f X):=by rw[e];exact h
theorem dZ{f:FuncId}{F:Func}(hf:P.funcs[f]? =some F){args:List AV}(h:(!(F.name == "runtime.NumGoroutine")&&(F.body.isSome&&(qkx (codeOf F)&&(Nat.ble args.length F.ntmps&&Nat.ble (F.ntmps+1) 262144))))=true)
  {D:TT AV (iO (F.ntmps+1))->pH} (l:Lk P (iO (F.ntmps+1)) F.ntmps O (codeOf F) (aCB (qcj P (iO (F.ntmps+1)) F.ntmps F.results.toList).f) D) (H:Hp) :
  (aM P f).f O args H=D (nV args 0 (same .undef _)) H:=by
 rw[pq,pq,pq]at h;exact iZ hf (by simpa using h.1) h.2.1 h.2.2.1 h.2.2.2 l H
theorem r7{f:FuncId}{F:Func}(hf:P.funcs[f]? =some F){args:List AV}{D:TT AV (iO (F.ntmps+1))->pH}(l:Lk P (iO (F.ntmps+1)) F.ntmps O (codeOf F) (aCB (qcj P (iO (F.ntmps+1)) F.ntmps F.results.toList).f) D){H:Hp}{r}(e:D (nV args 0 (same .undef _)) H=r:=by kernel_rfl)(h:(!(F.name == "runtime.NumGoroutine")&&(F.body.isSome&&(qkx (codeOf F)&&(Nat.ble args.length F.ntmps&&Nat.ble (F.ntmps+1) 262144))))=true:=by kernel_rfl):(aM P f).f O args H=r:=(dZ hf h l H).trans e
end Go.Di
end
noncomputable section
namespace Go.Di
open Go.Ev
variable {H H' H0:Hp} {S:Nat->Prop} {b i n z:Nat} {l:List AV}
structure LP where
 n:Nat
 ps:List Tmp
 aC:Code
 bd:Code
def LP.blk(p:LP)(b:Bool)(L:TT AV 2):bO:=.loop b none 2 p.n L p.ps p.aC p.bd
def pu(L:TT AV 2):List (Nat×AV)->TT AV 2
 | []=>L
 |p::r=>pu ((setter 2 p.1).f L p.2) r
theorem z0z{l:Nat}{v:AV}{L:TT AV 2}{p:LP}{M:TT AV 2}{E:TT AV 2->pH}{K:Kt 2}(h:H'.get l=p.blk true M):fin (endLoop l (.ok v H') L) (xA i (thn E K))=E L (H'.put l .dead):=by unfold endLoop;simp only[h];rfl
theorem q5n{l:Nat}{L M:TT AV 2}{p:LP}(h:H.get l=p.blk false M):endRound l (.ok .normal L H)=.ok (.bool true) (H.put l (p.blk true M)):=by unfold endRound;simp only[zwx,h];rfl
def q29(O:Ev.Call)(x2 x5:AV)(H:Hp):R1:=vq (aP 0 x5) H fun a3 H=>vq (aT H a3) H fun a4 H=>ve (O (.f 121) [a4] H) fun a5 H=>vq (aP 0 x5) H fun a6 H=>ve (kL H a6 a5) fun _ H=>vq (dD 2 H x5) H fun a8 H=>ve (xV 2 H x2 a8) fun _ H=>fJ (jK (qbv (rV (dD 2 H x2)) (qbv (some (iN 0)) (some [])))) H
def qh4(O:Ev.Call)(l:Nat)(L:TT AV 2)(x5 x6:AV)(H:Hp):R1:=dz 8 H fun b16 H=>dn 0 0 b16 H [] [] (aP 0 x5) fun a17 H p w=>dl 1 1 b16 H p w (fun H=>aT H a17) fun cZ H p w=>dn 2 0 b16 H p w (.val x6) fun dN H p w=>de 4 H p w (O (.f 120) [dN] (eP 4 p H)) (some true) fun a20 H p w=>da 4 12 b16 H p w (sZ 1 (b16+4) (bK (aV [.aA] 1) [(0,1,a20)])) fun a21 H p w=>de 31 H p w (j5 1 24 (eP 31 p H) cZ (oQ 1 (eP 31 p H) a21)) (some true) fun a22 H p w=>dn 6 63 b16 H p w (aP 0 x5) fun a23 H p w=>de 127 H p w (kL (eP 127 p H) a23 a22) (some true) fun _ H p w=>zQ p H fun H=>endRound l (.ok .normal L H)
def q28(O:Ev.Call)(g27:pD)(x29:AV)(H:Hp):R1:=vq (gY (nH .add).f x29 (iN 1)) H fun a29 H=>g27 a29 H
def q27(O:Ev.Call)(g27:pD)(x5 x27 x29:AV)(H:Hp):R1:=vq (aH 1 x27 x29) H fun a31 H=>vq (aT H a31) H fun a32 H=>vq (aP 1 x5) H fun a33 H=>vq (aT H a33) H fun a34 H=>vq (aP 0 x5) H fun a35 H=>vq (aT H a35) H fun a36 H=>vq (aD a36) H fun a37 H=>vq (aH 1 a34 a32) H fun a38 H=>ve (kL H a38 a37) fun _ H=>q28 O g27 x29 H
def q3a(O:Ev.Call)(xK:pH)(x5 x27 x28:AV)(g27:pD)(x29:AV)(H:Hp):R1:=vq (gY (nH .lss).f x29 x28) H fun a28 H=>cd a28 (q27 O g27 x5 x27 x29 H) (xK H)
def qka(O:Ev.Call)(xK:pH)(x5 x27 x28:AV)(n:Nat):pD:=Nat.rec (motive:=fun _=>pD) (fun _ _=>.bad) (fun _ ih=>q3a O xK x5 x27 x28 ih) n
def q3b(O:Ev.Call)(xK:pH)(x5 x27 x28:AV):pD:=qka O xK x5 x27 x28 dM
def tY(O:Ev.Call)(l:Nat)(L:TT AV 2)(x5 x26:AV)(H:Hp):R1:=vq (aD x26) H fun a26 H=>q3b O (fun H=>qh4 O l L x5 x26 H) x5 x26 a26 (iN 0) H
def zqi(LO:LP)(O:Ev.Call)(L:TT AV 2)(x25:AV)(H:Hp):R1:=fin (endLoop H.nx (qgw O x25 [.yield H.nx] (aO H (LO.blk true L))) L) (xA 0 (thn (fun L H=>q29 O (G L 2) (G L 5) H) (aCB fun L H=>jK (qbv (rV (dD 2 H (G L 2))) (qbv (some (G L 3)) (some []))))))
def qnv(LO:LP)(O:Ev.Call)(L:TT AV 2)(x1:AV)(H:Hp):R1:=dz 0 H fun b11 H=>dl 0 0 b11 H [] [] (fun H=>dD 2 H x1) fun a12 H p w=>dl 1 0 b11 H p w (fun H=>dD 2 H x1) fun bV H p w=>de 2 H p w (O (.f 119) [bV] (eP 2 p H)) (some true) fun bM H p w=>de 7 H p w (O (.f 118) [a12,bM] (eP 7 p H)) (some true) fun bP H p w=>zQ p H fun H=>zqi LO O (pu L [(22,a12),(23,bV),(24,bM),(25,bP)]) bP H
def q26(LO:LP)(O:Ev.Call)(L:TT AV 2)(x1 x2:AV)(H:Hp):R1:=vq (.new (.ptr H.nx 0) (aB 0 [.aA,.aA])) H fun a2 H=>vq (aP 0 x1) H fun a42 H=>vq (aT H a42) H fun a43 H=>vq (gY (nH .gtr).f a43 (iN 0)) H fun a44 H=>cd a44 (vq (aP 0 x1) H fun a45 H=>vq (aT H a45) H fun a46 H=>vq (qjs [iN 0] 8 H.nx a46 a46) H fun a47 H=>vq (aP 1 a2) H fun a48 H=>ve (kL H a48 a47) fun _ H=>qnv LO O (pu L [(5,a2),(15,a42),(16,a43),(17,a44),(18,a45),(19,a46),(20,a47),(21,a48)]) x1 H) (qnv LO O (pu L [(5,a2),(15,a42),(16,a43),(17,a44)]) x1 H)
def zzp(LO:LP)(O:Ev.Call)(L:TT AV 2)(x0:AV)(H:Hp):R1:=vq (pK 2 H.nx x0) H fun a0 H=>vq (.new (.ptr H.nx 0) (aB 0 [.aA,.aA])) H fun a1 H=>vq (dD 2 H a0) H fun a51 H=>ve (O (.f 117) [a51] H) fun a52 H=>vq (gY (nH .neq).f a52 (iN 0)) H fun a53 H=>cd a53 (vq (bR (bK [.aA,.aA] [])) H fun a54 H=>ve (xV 2 H a1 a54) fun _ H=>fJ (jK (qbv (rV (dD 2 H a1)) (qbv (some a52) (some [])))) H) (q26 LO O (pu L [(1,a0),(2,a1),(3,iN 0),(9,a51),(10,a52),(4,a52),(11,a52),(12,a53)]) a0 a1 H)
def zBo(LO:LP)(O:Ev.Call)(x0:AV)(H:Hp):R1:=zzp LO O (nV [x0] 0 (same .undef 2)) x0 H
def qgz(O:Ev.Call)(x2:AV)(H:Hp):R1:=vq (aT H x2) H fun a1 H=>.ok a1 H
def eF(O:Ev.Call)(l:Nat)(L:TT AV 2)(x2 x7:AV)(H:Hp):R1:=vq (aT H x2) H fun a3 H=>vq (sZ 1 H.nx (bK (aV [iN 0] 1) [(0,1,x7)])) H fun a4 H=>ve (j5 1 8 H a3 (oQ 1 H a4)) fun a5 H=>ve (kL H x2 a5) fun _ H=>endRound l (.ok .normal L H)
def qim(LA:LP)(O:Ev.Call)(L:TT AV 2)(x1:AV)(H:Hp):R1:=fin (endLoop H.nx (qgw O x1 [.yield H.nx] (aO H (LA.blk true L))) L) (xA 0 (thn (fun L H=>qgz O (G L 2) H) (aCB fun L _=>some (G L 4))))
def qin(LA:LP)(O:Ev.Call)(L:TT AV 2)(x0 x1:AV)(H:Hp):R1:=vq (jT H.nx x0) H fun a0 H=>qim LA O (pu L [(2,a0),(4,.aA),(6,x1)]) x1 H
def jO(LA:LP)(O:Ev.Call)(x0 x1:AV)(H:Hp):R1:=qin LA O (nV [x0,x1] 0 (same .undef 2)) x0 x1 H
structure aY3(LA LO:LP)(c d:Ev.Call):Prop where
 jO:∀(x0 x1:AV) (H:Hp),c (.f 231) [x0,x1] H=Di.jO LA d x0 x1 H
 eF:∀(L:TT AV 2) (l:Nat) (v:AV) (H:Hp),H.get l=LA.blk true L->c (.y l) [v] H=Di.eF d l L (G L 2) v (H.put l (LA.blk false L))
 zBo:∀(x0:AV) (H:Hp),c (.f 89) [x0] H=Di.zBo LO d x0 H
 tY:∀(L:TT AV 2) (l:Nat) (v:AV) (H:Hp),H.get l=LO.blk true L->c (.y l) [v] H=Di.tY d l L (G L 5) v (H.put l (LO.blk false L))
abbrev oP(LA LO:LP)(C:Nat->Ev.Call):Prop:=∀ k,aY3 LA LO (C (k+1)) (C k)
structure Lnk(c d:Ev.Call):Prop where
 zFy:∀ x0 x1 H,c (.f 4) [x0,x1] H=Di.zFy d x0 x1 H
 zDw:∀ x0 H,c (.f 7) [x0] H=Di.zDw d x0 H
 zDz:∀ x0 x1 H,c (.f 16) [x0,x1] H=Di.zDz d x0 x1 H
 zEa:∀ x0 x1 H,c (.f 17) [x0,x1] H=Di.zEa d x0 x1 H
 zFa:∀ x0 x1 H,c (.f 8) [x0,x1] H=Di.zFa d x0 x1 H
 zEb:∀ x0 x1 H,c (.f 18) [x0,x1] H=Di.zEb d x0 x1 H
 zFg:∀ x0 x1 H,c (.f 15) [x0,x1] H=Di.zFg d x0 x1 H
 zFh:∀ x0 x1 H,c (.f 14) [x0,x1] H=Di.zFh d x0 x1 H
 zDy:∀ x0 x1 H,c (.f 19) [x0,x1] H=Di.zDy d x0 x1 H
 zAc:∀ x0 H,c (.f 24) [x0] H=Di.zAc d x0 H
 zEc:∀ x0 x1 H,c (.f 25) [x0,x1] H=Di.zEc d x0 x1 H
 zEd:∀ x0 H,c (.f 26) [x0] H=Di.zEd d x0 H
 zAe:∀ x0 H,c (.f 27) [x0] H=Di.zAe d x0 H
 zEf:∀ x0 H,c (.f 36) [x0] H=Di.zEf d x0 H
 zEg:∀ x0 x1 H,c (.f 37) [x0,x1] H=Di.zEg d x0 x1 H
 zEh:∀ x0 H,c (.f 38) [x0] H=Di.zEh d x0 H
 zFb:∀ x0 H,c (.f 10) [x0] H=Di.zFb d x0 H
 zFi:∀ x0 x1 H,c (.f 29) [x0,x1] H=Di.zFi d x0 x1 H
 zFj:∀ x0 x1 H,c (.f 28) [x0,x1] H=Di.zFj d x0 x1 H
 zFk:∀ x0 H,c (.f 30) [x0] H=Di.zFk d x0 H
 zFc:∀ x0 H,c (.f 11) [x0] H=Di.zFc d x0 H
 zAh:∀ x0 H,c (.f 35) [x0] H=Di.zAh d x0 H
 zAn:∀ x0 H,c (.f 47) [x0] H=Di.zAn d x0 H
 zAo:∀ x0 H,c (.f 48) [x0] H=Di.zAo d x0 H
 zAp:∀ x0 x1 x2 x3 x4 H,c (.f 49) [x0,x1,x2,x3,x4] H=Di.zAp d x0 x1 x2 x3 x4 H
 zAq:∀ x0 H,c (.f 50) [x0] H=Di.zAq d x0 H
 zAr:∀ x0 x1 H,c (.f 51) [x0,x1] H=Di.zAr d x0 x1 H
 zAs:∀ x0 x1 x2 H,c (.f 52) [x0,x1,x2] H=Di.zAs d x0 x1 x2 H
 zAy:∀ x0 x1 x2 H,c (.f 39) [x0,x1,x2] H=Di.zAy d x0 x1 x2 H
 zEi:∀ x0 H,c (.f 53) [x0] H=Di.zEi d x0 H
 zEj:∀ x0 x1 H,c (.f 54) [x0,x1] H=Di.zEj d x0 x1 H
 zEk:∀ x0 x1 H,c (.f 55) [x0,x1] H=Di.zEk d x0 x1 H
 zAt:∀ x0 H,c (.f 56) [x0] H=Di.zAt d x0 H
 zAu:∀ x0 H,c (.f 57) [x0] H=Di.zAu d x0 H
 zEn:∀ x0 H,c (.f 64) [x0] H=Di.zEn d x0 H
 zDf:∀ x0 x1 H,c (.f 65) [x0,x1] H=Di.zDf d x0 x1 H
 zFl:∀ x0 x1 H,c (.f 32) [x0,x1] H=Di.zFl d x0 x1 H
 zFm:∀ x0 H,c (.f 31) [x0] H=Di.zFm d x0 H
 zFn:∀ x0 x1 H,c (.f 33) [x0,x1] H=Di.zFn d x0 x1 H
 zBe:∀ x0 H,c (.f 76) [x0] H=Di.zBe d x0 H
 zBf:∀ x0 x1 x2 x3 H,c (.f 77) [x0,x1,x2,x3] H=Di.zBf d x0 x1 x2 x3 H
 zBg:∀ x0 x1 x2 x3 H,c (.f 78) [x0,x1,x2,x3] H=Di.zBg d x0 x1 x2 x3 H
 zBh:∀ x0 H,c (.f 79) [x0] H=Di.zBh d x0 H
 zBi:∀ x0 x1 x2 H,c (.f 80) [x0,x1,x2] H=Di.zBi d x0 x1 x2 H
 zAz:∀ x0 x1 x2 H,c (.f 81) [x0,x1,x2] H=Di.zAz d x0 x1 x2 H
 zBs:∀ x0 x1 H,c (.f 66) [x0,x1] H=Di.zBs d x0 x1 H
 zEo:∀ x0 x1 H,c (.f 82) [x0,x1] H=Di.zEo d x0 x1 H
 zEp:∀ x0 x1 H,c (.f 83) [x0,x1] H=Di.zEp d x0 x1 H
 zBj:∀ x0 H,c (.f 84) [x0] H=Di.zBj d x0 H
 zBk:∀ x0 H,c (.f 85) [x0] H=Di.zBk d x0 H
 zBl:∀ x0 x1 x2 x3 x4 x5 x6 H,c (.f 86) [x0,x1,x2,x3,x4,x5,x6] H=Di.zBl d x0 x1 x2 x3 x4 x5 x6 H
 zBm:∀ x0 x1 x2 x3 H,c (.f 87) [x0,x1,x2,x3] H=Di.zBm d x0 x1 x2 x3 H
 zBn:∀ x0 H,c (.f 88) [x0] H=Di.zBn d x0 H
 zBp:∀ x0 H,c (.f 90) [x0] H=Di.zBp d x0 H
 zBq:∀ x0 H,c (.f 91) [x0] H=Di.zBq d x0 H
 zBc:∀ x0 H,c (.f 92) [x0] H=Di.zBc d x0 H
 zEs:∀ x0 H,c (.f 97) [x0] H=Di.zEs d x0 H
 zEt:∀ x0 H,c (.f 98) [x0] H=Di.zEt d x0 H
 zDm:∀ x0 x1 H,c (.f 99) [x0,x1] H=Di.zDm d x0 x1 H
 zFq:∀ x0 x1 H,c (.f 61) [x0,x1] H=Di.zFq d x0 x1 H
 zFr:∀ x0 H,c (.f 60) [x0] H=Di.zFr d x0 H
 zFs:∀ x0 H,c (.f 59) [x0] H=Di.zFs d x0 H
 zFt:∀ x0 x1 H,c (.f 62) [x0,x1] H=Di.zFt d x0 x1 H
 zFu:∀ x0 x1 H,c (.f 63) [x0,x1] H=Di.zFu d x0 x1 H
 zBt:∀ x0 x1 x2 H,c (.f 104) [x0,x1,x2] H=Di.zBt d x0 x1 x2 H
 zEu:∀ x0 x1 H,c (.f 105) [x0,x1] H=Di.zEu d x0 x1 H
 zEv:∀ x0 x1 H,c (.f 106) [x0,x1] H=Di.zEv d x0 x1 H
 zBu:∀ x0 H,c (.f 107) [x0] H=Di.zBu d x0 H
 zBr:∀ x0 H,c (.f 108) [x0] H=Di.zBr d x0 H
 zBv:∀ x0 x1 x2 H,c (.f 109) [x0,x1,x2] H=Di.zBv d x0 x1 x2 H
 zBw:∀ x0 H,c (.f 110) [x0] H=Di.zBw d x0 H
 zBx:∀ x0 x1 x2 H,c (.f 111) [x0,x1,x2] H=Di.zBx d x0 x1 x2 H
 zBy:∀ x0 x1 x2 x3 H,c (.f 112) [x0,x1,x2,x3] H=Di.zBy d x0 x1 x2 x3 H
 zBz:∀ x0 x1 H,c (.f 113) [x0,x1] H=Di.zBz d x0 x1 H
 zCb:∀ x0 H,c (.f 116) [x0] H=Di.zCb d x0 H
 zCc:∀ x0 H,c (.f 115) [x0] H=Di.zCc d x0 H
 zCd:∀ x0 H,c (.f 117) [x0] H=Di.zCd d x0 H
 zCe:∀ x0 H,c (.f 119) [x0] H=Di.zCe d x0 H
 zCf:∀ x0 x1 H,c (.f 118) [x0,x1] H=Di.zCf d x0 x1 H
 zBd:∀ x0 H,c (.f 120) [x0] H=Di.zBd d x0 H
 zCg:∀ x0 H,c (.f 121) [x0] H=Di.zCg d x0 H
 zEw:∀ x0 H,c (.f 128) [x0] H=Di.zEw d x0 H
 zEx:∀ x0 H,c (.f 129) [x0] H=Di.zEx d x0 H
 zFv:∀ x0 H,c (.f 95) [x0] H=Di.zFv d x0 H
 zCi:∀ x0 H,c (.f 131) [x0] H=Di.zCi d x0 H
 zCj:∀ x0 x1 x2 x3 H,c (.f 133) [x0,x1,x2,x3] H=Di.zCj d x0 x1 x2 x3 H
 zCk:∀ x0 x1 H,c (.f 134) [x0,x1] H=Di.zCk d x0 x1 H
 zCl:∀ x0 x1 x2 x3 H,c (.f 136) [x0,x1,x2,x3] H=Di.zCl d x0 x1 x2 x3 H
 zCm:∀ x0 x1 x2 H,c (.f 138) [x0,x1,x2] H=Di.zCm d x0 x1 x2 H
 zCn:∀ x0 H,c (.f 132) [x0] H=Di.zCn d x0 H
 zCo:∀ x0 x1 x2 x3 x4 x5 x6 H,c (.f 140) [x0,x1,x2,x3,x4,x5,x6] H=Di.zCo d x0 x1 x2 x3 x4 x5 x6 H
 zCp:∀ x0 H,c (.f 142) [x0] H=Di.zCp d x0 H
 zCq:∀ x0 H,c (.f 143) [x0] H=Di.zCq d x0 H
 zCr:∀ x0 x1 H,c (.f 144) [x0,x1] H=Di.zCr d x0 x1 H
 zCs:∀ x0 H,c (.f 145) [x0] H=Di.zCs d x0 H
 zCt:∀ x0 H,c (.f 93) [x0] H=Di.zCt d x0 H
 zCu:∀ x0 x1 H,c (.f 150) [x0,x1] H=Di.zCu d x0 x1 H
 zCv:∀ x0 x1 H,c (.f 148) [x0,x1] H=Di.zCv d x0 x1 H
 zCw:∀ x0 x1 x2 x3 H,c (.f 149) [x0,x1,x2,x3] H=Di.zCw d x0 x1 x2 x3 H
 zEy:∀ x0 H,c (.f 163) [x0] H=Di.zEy d x0 H
 zCx:∀ x0 H,c (.f 165) [x0] H=Di.zCx d x0 H
 zCy:∀ x0 x1 H,c (.f 135) [x0,x1] H=Di.zCy d x0 x1 H
 zCz:∀ x0 x1 x2 H,c (.f 137) [x0,x1,x2] H=Di.zCz d x0 x1 x2 H
 zDa:∀ x0 x1 H,c (.f 139) [x0,x1] H=Di.zDa d x0 x1 H
 zDb:∀ x0 H,c (.f 141) [x0] H=Di.zDb d x0 H
 zDc:∀ x0 H,c (.f 171) [x0] H=Di.zDc d x0 H
 zDd:∀ x0 x1 H,c (.f 181) [x0,x1] H=Di.zDd d x0 x1 H
 zDe:∀ x0 x1 H,c (.f 182) [x0,x1] H=Di.zDe d x0 x1 H
 zDg:∀ x0 x1 H,c (.f 167) [x0,x1] H=Di.zDg d x0 x1 H
 zDh:∀ x0 x1 H,c (.f 166) [x0,x1] H=Di.zDh d x0 x1 H
 zDj:∀ x0 x1 H,c (.f 211) [x0,x1] H=Di.zDj d x0 x1 H
 zDk:∀ x0 H,c (.f 213) [x0] H=Di.zDk d x0 H
 zDl:∀ x0 H,c (.f 212) [x0] H=Di.zDl d x0 H
 zDn:∀ x0 x1 H,c (.f 169) [x0,x1] H=Di.zDn d x0 x1 H
 zDo:∀ x0 x1 H,c (.f 168) [x0,x1] H=Di.zDo d x0 x1 H
 zDp:∀ x0 x1 H,c (.f 198) [x0,x1] H=Di.zDp d x0 x1 H
 zDq:∀ x0 x1 H,c (.f 227) [x0,x1] H=Di.zDq d x0 x1 H
 zDr:∀ x0 H,c (.f 226) [x0] H=Di.zDr d x0 H
 zDs:∀ x0 x1 H,c (.f 199) [x0,x1] H=Di.zDs d x0 x1 H
abbrev aW(C:Nat->Ev.Call):Prop:=∀ k,Lnk (C (k+1)) (C k)
abbrev qte(C:Nat->Ev.Call):Prop:=aW C
theorem dI:bX=1000000:=rfl
attribute [go_sem] qn5 qn4 qn3 qn2 qrv qvf qru qve qrt qvd qrs qvc qrr qvb qrq qva qrp qu9 qrg qt4 qrf qt3 qre qt2 qxj q2f
theorem Gl.qI{v:AV}(h:Gl z H v n l)(hi:i<n):∃ b o,aH z v (iN i)=.val (.ptr b o)/\b<H.nx/\In v b/\eB (H.get b) o z=some ((l.drop (i*z)).take z)/\∀(j:Nat),j<z->dK (H.get b) (o+j)=.val (l.getD (i*z+j) .undef):=by
 have hl:=h.len;rcases h.is with⟨rfl,rfl⟩|⟨b,o,e,q,L,rfl,h1,h2,h3,h4,h5⟩
 ·omega
 ·have hm:i*z+z<=n*z:=by
   have:(i+1)*z<=n*z:=uz z hi;rw[xh,au]at this;exact this
  have hL:o+n*z=L.length:=by rw[<-h3,xg]at hl;omega
  refine⟨b,o+i*z,sV _ _ _ _ _ _ _ _ hi,h5,⟨_,_,_,_,rfl⟩,?_,fun j hj=>?_⟩
  ·rw[h1,qca,pz (by omega),<-lAI,h3]
  ·rw[h1,qb0];have:L[o+i*z+j]? =l[i*z+j]? :=by rw[<-h3,zf];congr 1;omega
   rw[this,lh (by omega)];simp[kw,show i*z+j<l.length by omega]
structure Rs{α:Type}(z:Nat)(f:α->List AV)(H:Hp)(v:AV)(l:List α):Prop where
 len:aD v=.val (iN (l.length))
 at':∀ i (h:i<l.length),∃b o,aH z v (iN i)=.val (.ptr b o)/\b<H.nx/\In v b/\eB (H.get b) o z=some (f l[i])/\∀ j (h:j<(f l[i]).length),dK (H.get b) (o+j)=.val (f l[i])[j]
theorem Rs.iH{α:Type}{f:α->List AV}{v:AV}{l:List α}(h:Rs z f H v l)(a:Fm S H H')(hs:∀ b,In v b->¬ S b):Rs z f H' v l:=⟨h.len,fun i hi=>by obtain⟨b,o,h1,h2,h5,h3,h4⟩:=h.at' i hi;have e:=a.get b h2 (hs b h5);exact⟨b,o,h1,lL h2 a.nx,h5,by rw[e];exact h3,fun j hj=>by rw[e];exact h4 j hj⟩⟩
theorem Rs.fm{α:Type}{f:α->List AV}{v:AV}{l:List α}(h:Rs z f H v l)(a:Fm No H H'):Rs z f H' v l:=h.iH a fun _ _ h=>h
structure Ac{α:Type}(z:Nat)(f:α->List AV)(H0 H:Hp)(v:AV)(l:List α):Prop where
 gl:Gl z H v l.length (l.flatMap f)
 fm:Fm No H0 H
 nw:∀ b,In v b->H0.nx<=b
theorem Ac.nil{α:Type}(z:Nat)(f:α->List AV)(h:Fm No H0 H):Ac z f H0 H .aA ([]:List α):=⟨Gl.nil z H,h,fun b hb=>by obtain⟨_,_,_,_,h⟩:=hb;cases h⟩
theorem Ac.no{α:Type}{f:α->List AV}{v:AV}{l:List α}(h:Ac z f H0 H v l)(a:Fm No H H'):Ac z f H0 H' v l:=⟨h.gl.no a,h.fm.trans a,h.nw⟩
theorem Ac.cO{α:Type}{f:α->List AV}{v:AV}{l:List α}(h:Ac z f H0 H v l):aD v=.val (iN (l.length)):=h.gl.cO
theorem Ac.add{α:Type}{f:α->List AV}{v:AV}{l:List α}(h:Ac z f H0 H v l)(x:α)(w:Nat)(hx:(f x).length=z)(hb:(l.length+1)*w<=1099511627776)(hb2:l.length+1<=1099511627776):Ok (j5 z w H v (some ⟨1,f x⟩)) fun v' H'=>Ac z f H0 H' v' (l++[x]):=by
 obtain⟨H',e,gl',_,fm',nx'⟩:=h.gl.append (k:=1) (w:=w) (x:=f x) (by omega) (by omega) hb hb2;refine⟨_,H',e,?_,h.fm.then fm' fun c hc hi=>by have:=h.nw c hi;omega,fun b hb=>?_⟩
 ·simp_all
 ·obtain⟨_,_,_,_,h'⟩:=hb;cases h';exact h.fm.nx
theorem qgr{α:Type}{z:Nat}{f:α->List AV}(hf:∀ x,(f x).length=z):∀(l:List α) (i:Nat) (h:i<l.length),((l.flatMap f).drop (i*z)).take z=f l[i]
 | [],_,h=>by simp at h
 |a::l,0,_=>by simp_all
 |a::l,i+1,h=>by rw[ug,xh,au,Nat.add_comm,<-lAI,List.drop_left' (hf a)];exact qgr hf l i (by simpa using h)
theorem Gl.rs{α:Type}{f:α->List AV}(hf:∀ x,(f x).length=z){v:AV}{l:List α}(h:Gl z H v l.length (l.flatMap f)):Rs z f H v l:=⟨h.cO,fun i hi=>by
 obtain⟨b,o,e1,e2,e3,e4,e5⟩:=h.qI hi;rw[qgr hf l i hi]at e4;refine⟨b,o,e1,e2,e3,e4,fun j hj=>?_⟩;rw[e5 j (by rw[hf]at hj;exact hj)];have:(f l[i])[j]? =(l.flatMap f)[i*z+j]?:=by rw[<-qgr hf l i hi,lA7,pz (by rw[hf]at hj;exact hj),zf]
 rw[lh hj]at this;rw[kw,<-this];rfl⟩
theorem Ac.rs{α:Type}{f:α->List AV}(hf:∀ x,(f x).length=z){v:AV}{l:List α}(h:Ac z f H0 H v l):Rs z f H v l:=h.gl.rs hf
theorem Gl.lt{v:AV}(h:Gl z H v n l)(hb:In v b):b<H.nx:=by
 obtain⟨o,n',m,e,rfl⟩:=hb;rcases h.is with⟨h1,_⟩|⟨b',o',e',q,L,h1,_,_,_,_,h5⟩
 ·cases h1
 ·simp_all
structure nU{α:Type}(z:Nat)(f:α->List AV)(S:Nat->Prop)(H0 H:Hp)(v:AV)(l:List α):Prop where
 gl:Gl z H v l.length (l.flatMap f)
 fm:Fm S H0 H
 nw:∀ b,In v b->S b\/H0.nx<=b
theorem nU.no{α:Type}{f:α->List AV}{v:AV}{l:List α}(h:nU z f S H0 H v l)(a:Fm No H H'):nU z f S H0 H' v l:=⟨h.gl.no a,h.fm.then a fun _ _ h=>absurd h id,h.nw⟩
theorem nU.cO{α:Type}{f:α->List AV}{v:AV}{l:List α}(h:nU z f S H0 H v l):aD v=.val (iN (l.length)):=h.gl.cO
theorem nU.add{α:Type}{f:α->List AV}{v:AV}{l:List α}(h:nU z f S H0 H v l)(x:α)(w:Nat)(hx:(f x).length=z)(hb:(l.length+1)*w<=1099511627776)(hb2:l.length+1<=1099511627776):Ok (j5 z w H v (some ⟨1,f x⟩)) fun v' H'=>nU z f S H0 H' v' (l++[x]):=by
 obtain⟨H',e,gl',_,fm',nx'⟩:=h.gl.append (k:=1) (w:=w) (x:=f x) (by omega) (by omega) hb hb2;refine⟨_,H',e,?_,h.fm.then fm' fun c hc hi=>?_,fun b hb=>?_⟩
 ·simp_all
 ·rcases h.nw c hi with h|h
  ·exact h
  ·omega
 ·obtain⟨_,_,_,_,h'⟩:=hb;cases h';exact .inr h.fm.nx
theorem Ac.start{α:Type}{f:α->List AV}{v:AV}{l:List α}(h:Ac z f H0 H v l):nU z f (In v) H H v l:=⟨h.gl,Fm.refl _ _,fun _ h=>.inl h⟩
theorem Ac.old{α:Type}{f:α->List AV}{v:AV}{l:List α}(h:Ac z f H0 H v l)(a:Fm (In v) H H'):Fm No H0 H':=h.fm.then a fun c hc hi=>by have:=h.nw c hi;omega
theorem Ac.fin{α:Type}{f:α->List AV}{v v':AV}{l l':List α}(h:Ac z f H0 H v l)(h':nU z f (In v) H H' v' l'):Ac z f H0 H' v' l':=⟨h'.gl,h.old h'.fm,fun b hb=>by
 rcases h'.nw b hb with h1|h1
 ·exact h.nw b h1
 ·exact tq h.fm.nx h1⟩
end Go.Di
end
noncomputable section
namespace Go.Di
open Go.Ev
variable {C:Nat->Ev.Call}
variable {H H' H0 H1:Hp} {S:Nat->Prop} {b i j k m n z:Nat} {O:Ev.Call} {cs l:List AV} {neg:Bool} {sv:AV}
structure SS where
 n:Nat
 a:Nat
 deriving DecidableEq
def SS.v(s:SS):AV:=.str s.n s.a
def sE:SS:=⟨0,0⟩
def sU:SS:=⟨4,1919251317⟩
def lvl(n:Nat):Nat:=[0,1,1,2].getD (n%4) 0
def gD(n:Nat):SS:=⟨2,12402+256*(n%4)⟩
def bZ(n:Nat):SS:=⟨1,97+n%3⟩
def bF(L:List (List Nat)):Nat:=min L.length 12
def eG(L:List (List Nat))(n i:Nat):Nat:=(L.getD n []).getD i 0
structure Rl(H:Hp)(v:AV)(l:List AV):Prop where
 len:aD v=.val (iN (l.length))
 at':∀ i (h:i<l.length),∃b o,aH 1 v (iN i)=.val (.ptr b o)/\b<H.nx/\dK (H.get b) o=.val l[i]
theorem Rl.fm{v:AV}(h:Rl H v l)(f:Fm No H H'):Rl H' v l:=⟨h.len,fun i hi=>by obtain⟨b,o,h1,h2,h3⟩:=h.at' i hi;exact⟨b,o,h1,lL h2 f.nx,by rw[f.keep h2];exact h3⟩⟩
def yB(l:List Nat):List AV:=l.map fun x=>.int .u8 (.ofNat x)
structure gV(H:Hp)(v:AV)(L:List (List Nat)):Prop where
 flat:xO v=true
 ex:∃ ws:List AV,Rl H v ws/\ws.length=L.length/\∀ i (h:i<ws.length) (h':i<L.length),Rl H ws[i] (yB L[i])
 lt:∀ l∈L,∀x∈l,x<256
theorem gV.fm{v:AV}{L:List (List Nat)}(h:gV H v L)(f:Fm No H H'):gV H' v L:=by obtain⟨ws,h1,h2,h3⟩:=h.ex;exact⟨h.flat,⟨ws,h1.fm f,h2,fun i a b=>(h3 i a b).fm f⟩,h.lt⟩
theorem gV.len{v:AV}{L:List (List Nat)}(h:gV H v L):aD v=.val (iN (L.length)):=by obtain⟨ws,h1,h2,_⟩:=h.ex;rw[h1.len,h2]
theorem gV.at{v:AV}{L:List (List Nat)}(h:gV H v L)(hi:i<L.length):∃ b o w,aH 1 v (iN i)=.val (.ptr b o)/\b<H.nx/\dK (H.get b) o=.val w/\Rl H w (yB L[i]):=by obtain⟨ws,h1,h2,h3⟩:=h.ex;obtain⟨b,o,e1,e2,e3⟩:=h1.at' i (by omega);exact⟨b,o,ws[i]'(by omega),e1,e2,e3,h3 i (by omega) hi⟩
theorem zb1(n a:Nat):yS (.str n a)=some [.str n a]:=id rfl
theorem z5n(x:List AV):aV x 4=x++(x++(x++x)):=id (by show x++(x++(x++(x++[])))=_;rw[uh])
attribute [go_sem] zb1 z5n
theorem aUx(a b:Nat):qE oI (iN a) [iN b]=.val (iN ((min a b))):=by
 show R0.val (.int .i64 (bif pO (.ofNat b) (.ofNat a)then .ofNat b else .ofNat a))=_;rw[qei];by_cases h:b<a
 ·rw[gp (by simp only[rq];omega),Nat.min_eq_right (by omega)];rfl
 ·rw[qi (by simp only[rq];omega),yg (by omega)];rfl
theorem qkz(hC:aW C)(hk:1<=k){v:AV}{L:List (List Nat)}(h:gV H v L):Ok (C k (.f 47) [.agg [v]] H) fun r H'=>r=iN ((bF L))/\Fm No H H':=by obtain⟨j,rfl⟩:=aS hk;rw[(hC j).zAn];unfold zAn zz9;have e:=h.len;simp(disch:=go_size)only[go_sem,rB,rI,rK,rL,rN,rS,r6,e,aUx];exact Ok.ret ⟨rfl,by(repeat(first|exact Fm.refl _ _|assumption|refine Fm.push ?_ _|refine Fm.lF ?_ (by go_size)|refine Fm.aF ?_ _ _ (by go_size)))⟩
theorem at4{α:Type}(a b c d:α)(n:Nat):[a,b,c,d][n%4]? =some ([a,b,c,d].getD (n%4) a):=by
 have h4:n%4<4:=xF _ (by omega)
 match n%4,h4 with
 |0,_|1,_|2,_|3,_=>rfl
theorem at3{α:Type}(a b c:α)(n:Nat):[a,b,c][n%3]? =some ([a,b,c].getD (n%3) a):=by
 have h3:n%3<3:=xF _ (by omega)
 match n%3,h3 with
 |0,_|1,_|2,_=>rfl
theorem qej(hC:aW C)(hk:1<=k)(n:Nat)(hn:n<1000000)(H:Hp):Ok (C k (.f 79) [iN n] H) fun r H'=>r=iN ((lvl n))/\Fm No H H':=by
 obtain⟨j,rfl⟩:=aS hk;rw[(hC j).zBh];unfold zBh zzv;have h4:n%4<4:=xF _ (by omega);simp(disch:=go_size)only[go_sem,rB,rI,rK,rL,rN,rS,r6,at4];refine Ok.ret ⟨?_,by(repeat(first|exact Fm.refl _ _|assumption|refine Fm.push ?_ _|refine Fm.lF ?_ (by go_size)|refine Fm.aF ?_ _ _ (by go_size)))⟩;unfold lvl
 match n%4,h4 with
 |0,_|1,_|2,_|3,_=>rfl
theorem qyt(hC:aW C)(hk:1<=k)(n:Nat)(hn:n<1000000)(H:Hp):Ok (C k (.f 50) [iN n] H) fun r H'=>r=(gD n).v/\Fm No H H':=by
 obtain⟨j,rfl⟩:=aS hk;rw[(hC j).zAq];unfold zAq zz7;have h4:n%4<4:=xF _ (by omega);simp(disch:=go_size)only[go_sem,rB,rI,rK,rL,rN,rS,r6,at4];refine Ok.ret ⟨?_,by(repeat(first|exact Fm.refl _ _|assumption|refine Fm.push ?_ _|refine Fm.lF ?_ (by go_size)|refine Fm.aF ?_ _ _ (by go_size)))⟩;unfold gD SS.v
 match n%4,h4 with
 |0,_|1,_|2,_|3,_=>rfl
theorem qme(hC:aW C)(hk:1<=k)(n:Nat)(hn:n<1000000)(H:Hp):Ok (C k (.f 48) [iN n] H) fun r H'=>r=(bZ n).v/\Fm No H H':=by
 obtain⟨j,rfl⟩:=aS hk;rw[(hC j).zAo];unfold zAo zz8;have h3:n%3<3:=xF _ (by omega);simp(disch:=go_size)only[go_sem,rB,rI,rK,rL,rN,rS,r6,at3];refine Ok.ret ⟨?_,by(repeat(first|exact Fm.refl _ _|assumption|refine Fm.push ?_ _|refine Fm.lF ?_ (by go_size)|refine Fm.aF ?_ _ _ (by go_size)))⟩;unfold bZ SS.v
 match n%3,h3 with
 |0,_|1,_|2,_=>rfl
theorem q5x(hC:aW C)(hk:1<=k){v:AV}{L:List (List Nat)}(h:gV H v L)(hn:n<L.length):Ok (C k (.f 80) [.agg [v],iN n,iN i] H) fun r H'=>r=.int .u8 (.ofNat (eG L n i))/\Fm No H H':=by
 obtain⟨j,rfl⟩:=aS hk;rw[(hC j).zBi];unfold zBi zzu;have f0:Fm No H (aO H (aB 0 [v])):=by exact jY
 obtain⟨b,o,w,e1,e2,e3,e4⟩:=(h.fm f0).at hn;have el:=e4.len;have ell:(yB L[n]).length=L[n].length:=by simp[yB]
 rw[ell]at el;have hnd:L.getD n []=L[n]:=by rw[kw,lh hn];rfl
 by_cases hi:i<L[n].length
 ·obtain⟨b1,o1,g1,g2,g3⟩:=e4.at' i (by omega);have hv:(yB L[n])[i]'(by omega)=.int .u8 (.ofNat (eG L n i)):=by
   unfold eG;rw[hnd,kw,lh hi];simp[yB]
  rw[hv]at g3;simp(disch:=omega)only[go_sem,seval,e1,e3,el,hi,g1,g3];exact Ok.ret ⟨rfl,f0⟩
 ·have hv:eG L n i=0:=by
   unfold eG;simp_all
  simp(disch:=omega)only[go_sem,seval,e1,e3,el,hi];rw[hv];exact Ok.ret ⟨rfl,f0⟩
def ruV(k:Nat)(r t:SS)(a:AV):AV:=.agg [.int .u8 (.ofNat k),r.v,t.v,a]
def sC(s:SS):List AV:=[s.v]
theorem zaj(H:Hp)(b o n a:Nat):kL H (.ptr b o) (.str n a)=storeAt H b o [.str n a] .undef:=id rfl
attribute [go_sem] zaj
theorem qgo(hC:aW C)(hk:1<=k)(neg:Bool)(H:Hp):Ok (C k (.f 76) [.bool neg] H) fun r H'=>r=(if neg then ruV 2 (gD 0) sE .aA else ruV 1 sE sE .aA)/\Fm No H H':=by
 obtain⟨j,rfl⟩:=aS hk;rw[(hC j).zBe];unfold zBe zzz;cases neg
 ·simp only[go_sem];unfold zv2;simp(disch:=omega)only[go_sem,seval];exact Ok.ret ⟨rfl,by(repeat(first|exact Fm.refl _ _|assumption|refine Fm.push ?_ _|refine Fm.lF ?_ (by go_size)|refine Fm.aF ?_ _ _ (by go_size)))⟩
 ·simp(disch:=omega)only[go_sem,seval];exact Ok.ret ⟨rfl,by(repeat(first|exact Fm.refl _ _|assumption|refine Fm.push ?_ _|refine Fm.lF ?_ (by go_size)|refine Fm.aF ?_ _ _ (by go_size)))⟩
def qlr(n k:Nat)(neg:Bool):Bool:=decide (lvl k<lvl n)||(!neg&&decide (lvl k=lvl n))
theorem zlq(hC:aW C)(hk:2<=k)(n m:Nat)(hn:n<1000000)(hm:m<1000000)(neg:Bool)(H:Hp):Ok (C k (.f 104) [iN n,iN m,.bool neg] H) fun r H'=>r=.bool (qlr n m neg)/\Fm No H H':=by
 obtain⟨j,rfl⟩:=aS hk;rw[(hC j).zBt];refine Ok.ve (qej hC (k:=j) (by omega) m hm H) ?_;rintro _ H1 ⟨rfl,f1⟩;refine Ok.ve (qej hC (k:=j) (by omega) n hn H1) ?_;rintro _ H2 ⟨rfl,f2⟩;unfold qlr;by_cases h:lvl m<lvl n
 ·have hd:(lvl m<lvl n)=True:=dh h;simp only[go_sem,hd];exact Ok.ret ⟨by simp,f1.trans f2⟩
 ·cases neg
  ·simp only[go_sem,h];refine Ok.ve (qej hC (k:=j) (by omega) m hm H2) ?_;rintro _ H3 ⟨rfl,f3⟩;simp only[go_sem];refine Ok.ve (qej hC (k:=j) (by omega) n hn H3) ?_;rintro _ H4 ⟨rfl,f4⟩;simp only[go_sem];exact Ok.ret ⟨by simp,((f1.trans f2).trans f3).trans f4⟩
  ·simp only[go_sem,h];exact Ok.ret ⟨by simp,f1.trans f2⟩
def rg(a b:Nat):List Nat:=(List.range b).drop a
theorem qkr{a i:Nat}(h:a<=i):rg a (i+1)=rg a i++[i]:=by unfold rg;rw[lA9,xu (by simpa using h)]
theorem qv5(a:Nat):rg a a=[]:=by unfold rg;rw[vk (by simp)]
theorem qgm{a b x:Nat}:x∈rg a b↔a<=x/\x<b:=by
 unfold rg;rw[lE2];constructor
 ·rintro ⟨i,h,rfl⟩;simp at h ⊢;omega
 ·intro h;exact⟨x-a,by simp;omega,by simp;omega⟩
theorem qli(a b:Nat):(rg a b).length=b-a:=by unfold rg;simp
def cmpL(m n:Nat)(neg:Bool):List SS:=((rg (n / 4*4) (min m (n / 4*4+4))).filter (qlr n · neg)).map gD
theorem qyq(s:SS):(sC s).length=1:=rfl
structure yE(H:Hp)(b:Nat)(v:AV):Prop where
 lt:b<H.nx
 is:H.get b=aB 0 [v]
theorem yE.fm{v:AV}(h:yE H b v)(f:Fm No H H'):yE H' b v:=⟨lL h.lt f.nx,(f.keep h.lt).trans h.is⟩
theorem qfy(hC:aW C){j:Nat}(hj:2<=j){v:AV}{L:List (List Nat)}{n cb:Nat}{neg:Bool}(hn:n<100000){H1:Hp}{Q:pL}{q:pD}(hv:gV H1 v L)(hb:yE H1 cb v)(hq:∀ w H,Ac 1 sC H1 H w (cmpL (bF L) n neg)->Ok (q w H) Q):∀(k i:Nat) (w:AV) (H:Hp),n / 4*4<=i->i<=max (min (bF L) (n / 4*4+4)) (n / 4*4)->n / 4*4+4-i<k->Ac 1 sC H1 H w (((rg (n / 4*4) i).filter (qlr n · neg)).map gD) -> Ok (qum (C j) q (iN n) (.bool neg) (.ptr cb 0) k w (iN i) H) Q
 |0,i,_,_,_,_,h,_=>by omega
 |k+1,i,w,H,hi,hi2,hk,hw=>by
  show Ok (q3j (C j) _ _ _ _ (qum (C j) _ _ _ _ k) _ _ H) Q;unfold q3j;have hbH:=hb.fm hw.fm;have e0:=hbH.is;simp only[go_sem,e0];refine Ok.ve (qkz hC (k:=j) (by omega) (hv.fm hw.fm)) ?_;rintro _ H2 ⟨rfl,f2⟩;have hw2:=hw.no f2;by_cases hlt:i<bF L/\i<n / 4*4+4
  ·obtain⟨h1,h2⟩:=hlt;simp(disch:=go_size)only[go_sem,rB,rI,rK,rL,rN,rS,r6,h1,h2];refine Ok.ve (zlq hC (k:=j) (by omega) n i (by omega) (by omega) neg H2) ?_;rintro _ H3 ⟨rfl,f3⟩;have hw3:=hw2.no f3;have hr:=qkr hi;cases hf:qlr n i neg
   ·simp only[go_sem];unfold qun;simp(disch:=go_size)only[go_sem,rB,rI,rK,rL,rN,rS,r6];refine qfy hC hj hn hv hb hq k (i+1) w H3 (by omega) (by omega) (by omega) ?_;simp_all
   ·simp only[go_sem];refine Ok.ve (qyt hC (k:=j) (by omega) i (by omega) H3) ?_;rintro _ H4 ⟨rfl,f4⟩;have hw4:=hw3.no f4;unfold SS.v;simp(disch:=omega)only[go_sem,seval];have hl:(((rg (n / 4*4) i).filter (qlr n · neg)).map gD).length<=4:=by
     rw[qc];refine tq (yt _ _) ?_;rw[qli];omega
    refine Ok.ve ((hw4.no ((Fm.refl No H4).push (aB 0 [.str (gD i).n (gD i).a]))).add (gD i) 16 rfl (by omega) (by omega)) ?_;intro w5 H5 hw5;unfold qun;simp(disch:=go_size)only[go_sem,rB,rI,rK,rL,rN,rS,r6];refine qfy hC hj hn hv hb hq k (i+1) w5 H5 (by omega) (by omega) (by omega) ?_;simp_all
  ·have he:rg (n / 4*4) i=rg (n / 4*4) (min (bF L) (n / 4*4+4)):=by
    by_cases h:n / 4*4<=min (bF L) (n / 4*4+4)
    ·congr 1;omega
    ·unfold rg;rw[vk (by simp;omega),vk (by simp;omega)]
   rw[he]at hw2;by_cases h1:i<bF L
   ·have h2:¬ i<n / 4*4+4:=fun h=>hlt ⟨h1,h⟩;simp(disch:=go_size)only[go_sem,rB,rI,rK,rL,rN,rS,r6,h1,h2];exact hq w H2 hw2
   ·simp only[go_sem,h1];exact hq w H2 hw2
theorem zt0(x:Nat)(h:x<256):qw7 .i64 (.int .u8 (.ofNat x))=.val (iN x):=by show R0.val (.int .i64 (uS .i64 (.ofNat x)))=_;rw[qgx _ (by omega)]
theorem zt9(n:Nat)(h:n<256):uS .u8 (.ofNat n)=.ofNat n:=by show(bif Nat.blt n 256 then _ else _)=_;rw[blt_eq,gp h];rfl
theorem z5x(a b:Nat)(h:0<b)(h2:a<256):gY (nH .quo).f (.int .u8 (.ofNat a)) (.int .u8 (.ofNat b))=.val (.int .u8 (.ofNat (a / b))):=by show(bif rD (.ofNat b) 0 then R0.bad else .val (.int .u8 (uS .u8 (Int.tdiv (.ofNat a) (.ofNat b)))))=_;rw[qfc,qi (by simp only[rq];omega)];show R0.val (.int .u8 (uS .u8 (.ofNat (a / b))))=_;rw[zt9 _ (lAS (Nat.div_le_self _ _) h2)]
theorem z5f(n j:Nat)(k:IntKind)(h:j<=8):qyi (qje .shr).f (.int .u8 (.ofNat n)) (.int k (.ofNat j))=.val (.int .u8 (.ofNat (n / 2 ^ j))):=by
 show(bif pO (.ofNat j) 0 then R0.bad else .val (.int .u8 ((Int.ofNat n).fdiv (2 ^ (min j 8)))))=_;rw[qei,yg h];have h0:decide ((Int.ofNat j)<0)=false:=by simp
 show R0.val (.int .u8 ((Int.ofNat n).fdiv (2 ^ j)))=_;congr 2;have h2:((2:Int) ^ j)=Int.ofNat (2 ^ j):=by simp
 show Int.fdiv (n:Int) ((2 ^ j:Nat):Int)=((n / 2 ^ j:Nat):Int);rw[Int.fdiv_eq_ediv_of_nonneg _ (Int.natCast_nonneg _)];rfl
attribute [go_sem] zt0 z5x z5f
theorem q9w{v:AV}{L:List (List Nat)}(h:gV H v L)(n i:Nat):eG L n i<256:=by
 unfold eG;rw[kw,kw];cases h1:L[n]? with
 |none=>simp
 |some l=>
  simp only[Option.getD_some];cases h2:l[i]? with
  |none=>simp
  |some x=>exact h.lt l (uq h1) x (uq h2)
structure At(m n:Nat)(neg:Bool):Prop where
 lt:n<m
 le:m<=12
 up:neg=true->0<lvl n
theorem aTa(q:Nat):lvl (q*4)=0:=by unfold lvl;rw[Nat.mul_mod_left];rfl
theorem qxa(h:At m n neg):0<(cmpL m n neg).length:=by
 unfold cmpL;rw[qc];refine List.length_pos_of_mem (a:=n / 4*4) ?_;rw[uy,qgm];have:=h.lt;refine⟨by omega,?_⟩;unfold qlr;rw[aTa];cases neg with
 |true=>simp[h.up rfl]
 |false=>simp;omega
theorem Rs.at1{α:Type}{f:α->List AV}{g:α->AV}(hf:∀ x,f x=[g x]){v:AV}{l:List α}(h:Rs 1 f H v l)(hi:i<l.length):∃b o,aH 1 v (iN i)=.val (.ptr b o)/\b<H.nx/\dK (H.get b) o=.val (g l[i]):=by obtain⟨b,o,h1,h2,_,h3,h4⟩:=h.at' i hi;refine⟨b,o,h1,h2,?_⟩;simp_all
theorem qpw(hC:aW C)(hk:4<=k){v:AV}{L:List (List Nat)}{n c:Nat}(hv:gV H v L)(hA:At (bF L) n neg)(hc:c<256):Ok (C k (.f 77) [.agg [v],iN n,.int .u8 (.ofNat c),.bool neg] H) fun r H'=>
   r=ruV 2 ((cmpL (bF L) n neg).getD (c%(cmpL (bF L) n neg).length) sE) sE .aA/\Fm No H H':=by
 obtain⟨j,rfl⟩:=aS hk;rw[(hC j).zBf];unfold zBf zzy;have hp:=qxa hA;have hn:=hA.lt;have hle:=hA.le;simp(disch:=go_size)only[go_sem,rB,rI,rK,rL,rN,rS,r6];unfold zg3;rw[dB];have f1:Fm No H (aO (aO H (aB 0 [v])) (aB 0 [.int .u8 (.ofNat 0),.str 0 0,.str 0 0,.aA])):=by exact pU
 have f1':Fm No (aO H (aB 0 [v])) (aO (aO H (aB 0 [v])) (aB 0 [.int .u8 (.ofNat 0),.str 0 0,.str 0 0,.aA])):=by exact jY
 have hcb:yE (aO H (aB 0 [v])) H.nx v:=⟨by(go_size),by simp(disch:=go_size)only[go_sem,rB,rI,rK,rL,rN,rS,r6]⟩;refine qfy hC (by omega) (by omega) (hv.fm f1) (hcb.fm f1') (fun w H2 hw=>?_) bX (n / 4*4) .aA _ (lg _) (by omega) (by rw[dI];omega) ?_
 ·unfold zg2;have hl:=hw.cO;have f2:=hw.fm;have hmod:c%(cmpL (bF L) n neg).length<(cmpL (bF L) n neg).length:=xF _ hp;obtain⟨b,o,e1,e2,e3⟩:=(hw.rs qyq).at1 (g:=SS.v) (fun _=>rfl) hmod;have k2:H2.get (H.nx+1)=aB 0 [.int .u8 (.ofNat 0),.str 0 0,.str 0 0,.aA]:=(f2.keep (by go_size)).trans (by simp(disch:=go_size)only[go_sem,seval]);unfold SS.v at e3;have ex:=f2.nx;simp(disch:=omega)only[go_sem,seval,hl,e1,e3,k2];refine Ok.ret ⟨?_,(f1.trans f2).aF _ _ (by omega)⟩;rw[kw,lh hmod];rfl
 ·rw[qv5];exact Ac.nil _ _ (Fm.refl _ _)
structure iQ where
 sp:SS
 rl:SS
 deriving DecidableEq
def tC(t:iQ):List AV:=[t.sp.v,t.rl.v]
theorem qgg(t:iQ):(tC t).length=2:=rfl
def nS(m:Nat):Nat:=min 3 ((m+3) / 4)
def tQ(c i:Nat):List iQ:=⟨sU,sE⟩::((rg 0 i).filter fun i=>decide (c / 2 ^ i%2=1)).map fun i=>⟨bZ i,sE⟩
def qT(m n:Nat):List iQ:=((rg 0 m).filter fun k=>decide (lvl k<=lvl n)).map fun k=>⟨bZ (k / 4),gD k⟩
def kG(L:List (List Nat))(n:Nat):List iQ:=
 tQ (eG L n 0) (nS (bF L))++if eG L n 1%2=1 then[(qT (bF L) n).getD (eG L n 1 / 2%(qT (bF L) n).length) ⟨sE,sE⟩]else[]
theorem Ac.one{α:Type}{f:α->List AV}(x:α)(hx:(f x).length=z)(h:Fm No H0 H):Ac z f H0 (aO H (aB 0 (f x))) (.sl H.nx 0 1 1 true) [x]:=
 ⟨⟨by simp[hx],.inr ⟨_,_,_,_,_,rfl,lC _ _,gq _,by simp,.inl rfl,by rw[np];omega⟩⟩,h.push _,fun b hb=>by obtain⟨_,_,_,_,h'⟩:=hb;cases h';exact h.nx⟩
theorem qh9(hC:aW C){j:Nat}(hj:2<=j){v:AV}{L:List (List Nat)}{n cb:Nat}(hn:n<100000){H1:Hp}{Q:pL}{q:pD}(hv:gV H1 v L)(hb:yE H1 cb v)(hq:∀ w H,Ac 2 tC H1 H w (qT (bF L) n)->Ok (q w H) Q):∀(k i:Nat) (w:AV) (H:Hp),i<=bF L->bF L-i<k->Ac 2 tC H1 H w (qT i n) -> Ok (qu5 (C j) q (iN n) (.ptr cb 0) k w (iN i) H) Q
 |0,i,_,_,_,h,_=>by omega
 |k+1,i,w,H,hi,hk,hw=>by
  show Ok (q33 (C j) _ _ _ (qu5 (C j) _ _ _ k) _ _ H) Q;unfold q33;have hm:bF L<=12:=um _ _;have hbH:=hb.fm hw.fm;have e0:=hbH.is;simp only[go_sem,e0];refine Ok.ve (qkz hC (k:=j) (by omega) (hv.fm hw.fm)) ?_;rintro _ H2 ⟨rfl,f2⟩;have hw2:=hw.no f2;by_cases hlt:i<bF L
  ·simp only[go_sem,hlt];refine Ok.ve (qej hC (k:=j) (by omega) i (by omega) H2) ?_;rintro _ H3 ⟨rfl,f3⟩;refine Ok.ve (qej hC (k:=j) (by omega) n (by omega) H3) ?_;rintro _ H4 ⟨rfl,f4⟩;have hw4:=(hw2.no f3).no f4;have hr:rg 0 (i+1)=rg 0 i++[i]:=qkr (gq _);by_cases hf:lvl i<=lvl n
   ·simp(disch:=go_size)only[go_sem,rB,rI,rK,rL,rN,rS,r6,hf];refine Ok.ve (qme hC (k:=j) (by omega) (i / 4) (by omega) H4) ?_;rintro _ H5 ⟨rfl,f5⟩;refine Ok.ve (qyt hC (k:=j) (by omega) i (by omega) H5) ?_;rintro _ H6 ⟨rfl,f6⟩;have hw6:=(hw4.no f5).no f6;unfold SS.v;simp(disch:=omega)only[go_sem,seval];have hl:(qT i n).length<=12:=by
     unfold qT;rw[qc];refine tq (yt _ _) ?_;rw[qli];omega
    refine Ok.ve ((hw6.no ((Fm.refl No H6).push (aB 0 (tC ⟨bZ (i / 4),gD i⟩)))).add ⟨bZ (i / 4),gD i⟩ 32 rfl (by omega) (by omega)) ?_;intro w7 H7 hw7;unfold qu8;simp(disch:=go_size)only[go_sem,rB,rI,rK,rL,rN,rS,r6];refine qh9 hC hj hn hv hb hq k (i+1) w7 H7 (by omega) (by omega) ?_;unfold qT;rw[hr,yj,iw,gp hf];simpa [qT] using hw7
   ·simp only[go_sem,hf];unfold qu8;simp(disch:=go_size)only[go_sem,rB,rI,rK,rL,rN,rS,r6];refine qh9 hC hj hn hv hb hq k (i+1) w H4 (by omega) (by omega) ?_;unfold qT;rw[hr,yj,iw,qi hf];simpa [qT] using hw4
  ·have he:i=bF L:=by omega
   simp only[go_sem,hlt];simp_all
theorem q4f(c i:Nat):(tQ c i).length<=i+1:=by unfold tQ;rw[pg,qc];have:=yt (fun i=>decide (c / 2 ^ i%2=1)) (rg 0 i);rw[qli]at this;omega
theorem qvu(h:n<m):0<(qT m n).length:=by unfold qT;rw[qc];refine List.length_pos_of_mem (a:=n) ?_;rw[uy,qgm];simp_all
theorem Ac.trans{α:Type}{f:α->List AV}{v:AV}{l:List α}(a:Fm No H0 H1)(h:Ac z f H1 H v l):Ac z f H0 H v l:=⟨h.gl,a.trans h.fm,fun b hb=>tq a.nx (h.nw b hb)⟩
theorem Rs.qI{α:Type}{f:α->List AV}{v:AV}{l:List α}(h:Rs z f H v l)(hi:i<l.length):∃b o,aH z v (iN i)=.val (.ptr b o)/\b<H.nx/\eB (H.get b) o z=some (f l[i]):=by obtain⟨b,o,h1,h2,_,h3,_⟩:=h.at' i hi;exact⟨b,o,h1,h2,h3⟩
theorem zis(hC:aW C)(hj:2<=j){v:AV}{L:List (List Nat)}{n cb:Nat}(hn:n<bF L)(hv:gV H v L)(hb:yE H cb v){w:AV}(hw:Ac 2 tC H0 H w (tQ (eG L n 0) (nS (bF L)))):Ok (qu7 (C j) (iN n) (.ptr cb 0) w H) fun r H'=>Ac 2 tC H0 H' r (kG L n):=by
 have hm:bF L<=12:=um _ _;have hnL:n<L.length:=lL hn (bz _ _);unfold qu7;have e0:=hb.is;simp only[go_sem,e0];refine Ok.ve (q5x hC (k:=j) (by omega) hv hnL) ?_;rintro _ H1 ⟨rfl,f1⟩;have hw1:=hw.no f1;unfold kG;have hc:=q9w hv n 1;by_cases h1:eG L n 1%2=1
 ·rw[pz h1];simp(disch:=go_size)only[go_sem,rB,rI,rK,rL,rN,rS,r6,h1];unfold zhs;rw[dB];refine qh9 hC hj (by omega) (hv.fm f1) (hb.fm f1) (fun u H2 hu=>?_) bX 0 .aA H1 (gq _) (by rw[dI];omega) (Ac.nil _ _ (Fm.refl _ _));unfold q30;have f2:=hu.fm;have e2:=((hb.fm f1).fm f2).is;simp only[go_sem,e2];refine Ok.ve (q5x hC (k:=j) (by omega) ((hv.fm f1).fm f2) hnL) ?_;rintro _ H3 ⟨rfl,f3⟩;have hu3:=hu.no f3;have hl:=hu3.cO;have hmod:eG L n 1 / 2%(qT (bF L) n).length<(qT (bF L) n).length:=xF _ (qvu hn);obtain⟨b,o,e1,_,e3⟩:=(hu3.rs qgg).qI hmod;have hx:(qT (bF L) n).getD (eG L n 1 / 2%(qT (bF L) n).length) ⟨sE,sE⟩=(qT (bF L) n)[eG L n 1 / 2%(qT (bF L) n).length]:=by
   simp_all
  rw[hx];have hlen:=q4f (eG L n 0) (nS (bF L));have yV:nS (bF L)<=3:=bz _ _;unfold tC at e3;simp(disch:=go_size)only[go_sem,rB,rI,rK,rL,rN,rS,r6,hl,e1,e3];refine Ok.ve ((((hw1.no f2).no f3).no ((Fm.refl No H3).push (aB 0 (tC (qT (bF L) n)[eG L n 1 / 2%(qT (bF L) n).length])))).add _ 32 rfl (by omega) (by omega)) ?_;intro w4 H4 hw4;exact Ok.ret hw4
 ·rw[kz h1,uh];simp(disch:=go_size)only[go_sem,rB,rI,rK,rL,rN,rS,r6,h1];exact Ok.ret hw1
theorem qia(hC:aW C){j:Nat}(hj:2<=j){v:AV}{L:List (List Nat)}{n cb:Nat}(hn:n<bF L){H0:Hp}{Q:pL}{q:pD}(hv:gV H0 v L)(hb:yE H0 cb v)(hq:∀ w H,Ac 2 tC H0 H w (tQ (eG L n 0) (nS (bF L)))->Ok (q w H) Q):∀(k i:Nat) (w:AV) (H:Hp),i<=nS (bF L)->3-i<k->Ac 2 tC H0 H w (tQ (eG L n 0) i) -> Ok (qu4 (C j) q (iN n) (.ptr cb 0) k w (iN i) H) Q
 |0,i,_,_,_,h,_=>by omega
 |k+1,i,w,H,hi,hk,hw=>by
  show Ok (q31 (C j) _ _ _ (qu4 (C j) _ _ _ k) _ _ H) Q;unfold q31;have hm:bF L<=12:=um _ _;have hnL:n<L.length:=lL hn (bz _ _);have yV:nS (bF L)<=3:=bz _ _;have e0:=(hb.fm hw.fm).is;simp(disch:=omega)only[go_sem,e0];refine Ok.ve (qkz hC (k:=j) (by omega) (hv.fm hw.fm)) ?_;rintro _ H2 ⟨rfl,f2⟩;have hw2:=hw.no f2;by_cases hlt:i<nS (bF L)
  ·have h1:4*i<bF L:=by unfold nS at hlt;omega
   have h2:i<3:=by omega
   simp only[go_sem,h1,h2];unfold zhq;have e2:=(hb.fm hw2.fm).is;simp only[go_sem,e2];refine Ok.ve (q5x hC (k:=j) (by omega) (hv.fm hw2.fm) hnL) ?_;rintro _ H3 ⟨rfl,f3⟩;have hw3:=hw2.no f3;have hr:rg 0 (i+1)=rg 0 i++[i]:=qkr (gq _);by_cases hf:eG L n 0 / 2 ^ i%2=1
   ·simp(disch:=omega)only[go_sem,hf];refine Ok.ve (qme hC (k:=j) (by omega) i (by omega) H3) ?_;rintro _ H4 ⟨rfl,f4⟩;have hw4:=hw3.no f4;unfold SS.v;simp(disch:=omega)only[go_sem,seval];have hl:=q4f (eG L n 0) i;refine Ok.ve ((hw4.no ((Fm.refl No H4).push (aB 0 (tC ⟨bZ i,sE⟩)))).add ⟨bZ i,sE⟩ 32 rfl (by omega) (by omega)) ?_;intro w5 H5 hw5;unfold qu6;simp(disch:=omega)only[go_sem];refine qia hC hj hn hv hb hq k (i+1) w5 H5 (by omega) (by omega) ?_;have:tQ (eG L n 0) (i+1)=tQ (eG L n 0) i++[⟨bZ i,sE⟩]:=by
     unfold tQ;simp_all
    simp_all
   ·simp(disch:=go_size)only[go_sem,rB,rI,rK,rL,rN,rS,r6,hf];unfold qu6;simp(disch:=omega)only[go_sem];refine qia hC hj hn hv hb hq k (i+1) w H3 (by omega) (by omega) ?_;have:tQ (eG L n 0) (i+1)=tQ (eG L n 0) i:=by
     unfold tQ;simp_all
    simp_all
  ·have he:i=nS (bF L):=by omega
   rw[he]at hw2;by_cases h1:4*i<bF L
   ·have h2:¬ i<3:=by unfold nS at hlt;omega
    omega
   ·simp only[go_sem,h1];simp_all
theorem q7j(hC:aW C)(hk:4<=k){v:AV}{L:List (List Nat)}(hv:gV H v L)(hn:n<bF L):Ok (C k (.f 51) [.agg [v],iN n] H) fun r H'=>Ac 2 tC H H' r (kG L n):=by
 obtain⟨j,rfl⟩:=aS hk;rw[(hC j).zAr];unfold zAr zz6;simp only[go_sem];unfold zhr;rw[dB];have hcb:yE (aO H (aB 0 [v])) H.nx v:=⟨by(go_size),by simp(disch:=omega)only[go_sem,seval]⟩;have fa:Fm No H (aO H (aB 0 [v])):=by exact jY
 have h1:=Ac.one (z:=2) (f:=tC) (H0:=aO H (aB 0 [v])) ⟨sU,sE⟩ rfl (Fm.refl _ _);refine qia hC (by omega) hn (hv.fm fa) hcb (fun w H2 hw=>?_) bX 0 _ _ (gq _) (by rw[dI];omega) h1;refine(zis hC (by omega) hn ((hv.fm fa).fm hw.fm) (hcb.fm hw.fm) (hw.trans (H0:=H) fa)).mono fun r H' h=>h
theorem z8b(n a m b:Nat):fO (mJ .eql).f (.str n a) (.str m b)=.val (.bool (decide (n=m/\a=b))):=by show R0.val (.bool (Nat.beq n m&&Nat.beq a b))=_;rw[beq_eq,beq_eq,Bool.decide_and]
theorem zko(n a m b:Nat):fO (mJ .neq).f (.str n a) (.str m b)=.val (.bool (!decide (n=m/\a=b))):=by show R0.val (.bool (!(Nat.beq n m&&Nat.beq a b)))=_;rw[beq_eq,beq_eq,Bool.decide_and]
theorem z2h(n a:Nat):pN 64 (.str n a) (.str n a)=true:=by show(Nat.beq n n&&Nat.beq a a)=true;simp
attribute [go_sem] z8b zko z2h
theorem sJ(s t:SS):(s=t)↔(s.n=t.n/\s.a=t.a):=by cases s;cases t;simp
structure ArS where
 rl:SS
 to:SS
 deriving DecidableEq
def arC(x:ArS):List AV:=[.int .u8 (.ofNat 3),x.rl.v,x.to.v,.aA]
theorem z3n(t:ArS):(arC t).length=4:=rfl
def arP(n:Nat)(neg:Bool)(t:iQ)(j:Nat):Bool:=decide (t.rl=sE)&&decide (t.sp=bZ (j / 4))&&qlr n j neg
def wJ(n:Nat)(neg:Bool)(k:Nat)(t:iQ)(m:Nat):List ArS:=((rg 0 m).filter (arP n neg t)).map fun j=>⟨gD k,gD j⟩
def arK(L:List (List Nat))(n:Nat)(neg:Bool)(k:Nat):List ArS:=(kG L k).flatMap fun t=>wJ n neg k t (bF L)
def mU(L:List (List Nat))(n:Nat)(neg:Bool)(i:Nat):List ArS:=(rg (n / 4*4) i).flatMap (arK L n neg)
theorem q54(n:Nat)(neg:Bool)(k:Nat)(t:iQ)(m:Nat):(wJ n neg k t m).length<=m:=by unfold wJ;rw[qc];refine tq (yt _ _) ?_;rw[qli];omega
theorem zuh(n:Nat)(neg:Bool)(k:Nat)(t:iQ)(i:Nat):wJ n neg k t (i+1)=wJ n neg k t i++if arP n neg t i then[⟨gD k,gD i⟩]else[]:=by unfold wJ;rw[qkr (gq _),yj,iw];cases arP n neg t i<;>simp
theorem qda{α β:Type}(g:α->List β)(c:Nat)(h:∀ x,(g x).length<=c):∀ l:List α,(l.flatMap g).length<=c*l.length
 | []=>by simp
 |a::l=>by rw[ug,lq,pg,Nat.mul_add,qj];have:=qda g c h l;have:=h a;omega
theorem qd8(hC:aW C){j:Nat}(hj:3<=j){v:AV}{L:List (List Nat)}{n cb kk:Nat}{neg:Bool}(hn:n<100000)(hkk:kk<100000){S:Nat->Prop}{H0:Hp}{Q:pL}{q:pD}(hv:∀ H',Fm S H0 H'->gV H' v L)(hb:∀ H',Fm S H0 H'->yE H' cb v){ts:List iQ}{tv:AV}(ht:∀ H',Fm S H0 H'->Rs 2 tC H' tv ts){x:Nat}(hx:x<ts.length){A:List ArS}(hA:A.length<=1000000)(hq:∀ w H,nU 4 arC S H0 H w (A++wJ n neg kk ts[x] (bF L))->Ok (q w H) Q):∀(k i:Nat) (w:AV) (H:Hp),i<=bF L->bF L-i<k->nU 4 arC S H0 H w (A++wJ n neg kk ts[x] i) -> Ok (quk (C j) q (iN n) (.bool neg) (.ptr cb 0) (iN kk) tv (iN x) k w (iN i) H) Q
 |0,i,_,_,_,h,_=>by omega
 |k+1,i,w,H,hi,hk,hw=>by
  show Ok (q3g (C j) _ _ _ _ _ _ _ (quk (C j) _ _ _ _ _ _ _ k) _ _ H) Q;unfold q3g;have hm:bF L<=12:=um _ _;have e0:=(hb _ hw.fm).is;simp only[go_sem,e0];refine Ok.ve (qkz hC (k:=j) (by omega) (hv _ hw.fm)) ?_;rintro _ H2 ⟨rfl,f2⟩;have hw2:=hw.no f2;by_cases hlt:i<bF L
  ·simp only[go_sem,hlt];unfold zgy;have ht2:=ht _ hw2.fm;obtain⟨b,o,e1,e2,_,e3,e4⟩:=ht2.at' x hx;have r0:dK (H2.get b) o=.val (.str ts[x].sp.n ts[x].sp.a):=e4 0 (by rw[qgg];omega);have r1:dK (H2.get b) (o+1)=.val (.str ts[x].rl.n ts[x].rl.a):=e4 1 (by rw[qgg];omega);have hsucc:=zuh n neg kk ts[x] i;have hlen:=q54 n neg kk ts[x] i;by_cases h1:ts[x].rl.n=0/\ts[x].rl.a=0
   ·have h1':ts[x].rl=sE:=(sJ _ _).2 h1;have h1t:=dh h1;simp(disch:=go_size)only[go_sem,rB,rI,rK,rL,rN,rS,r6,e1,r0,r1,h1t];refine Ok.mI (qme hC (k:=j) (by omega) (i / 4) (by omega) H2) ?_;rintro _ H3 ⟨rfl,f3⟩;have r0':dK (H3.get b) o=.val (.str ts[x].sp.n ts[x].sp.a):=by rw[f3.keep e2];exact r0
    have r1':dK (H3.get b) (o+1)=.val (.str ts[x].rl.n ts[x].rl.a):=by rw[f3.keep e2];exact r1
    have hw3:=hw2.no f3;unfold SS.v;by_cases h2:ts[x].sp.n=(bZ (i / 4)).n/\ts[x].sp.a=(bZ (i / 4)).a
    ·have h2':ts[x].sp=bZ (i / 4):=(sJ _ _).2 h2;have h2t:=dh h2;simp only[go_sem,r0',r1',h2t];refine Ok.mI (zlq hC (k:=j) (by omega) n i (by omega) (by omega) neg H3) ?_;rintro _ H4 ⟨rfl,f4⟩;have bFN:dK (H4.get b) o=.val (.str ts[x].sp.n ts[x].sp.a):=by rw[f4.keep (lL e2 f3.nx)];exact r0'
     have bCO:dK (H4.get b) (o+1)=.val (.str ts[x].rl.n ts[x].rl.a):=by rw[f4.keep (lL e2 f3.nx)];exact r1'
     have hw4:=hw3.no f4;have hap:arP n neg ts[x] i=qlr n i neg:=by unfold arP;rw[gp h1',gp h2'];simp
     rw[hap]at hsucc;cases hf:qlr n i neg
     ·rw[hf]at hsucc;unfold qkb;simp(disch:=go_size)only[go_sem,rB,rI,rK,rL,rN,rS,r6];refine qd8 hC hj hn hkk hv hb ht hx hA hq k (i+1) w H4 (by omega) (by omega) ?_;simp_all
     ·rw[hf]at hsucc;simp only[go_sem,bFN,bCO];refine Ok.ve (qyt hC (k:=j) (by omega) kk (by omega) H4) ?_;rintro _ H5 ⟨rfl,f5⟩;refine Ok.ve (qyt hC (k:=j) (by omega) i (by omega) H5) ?_;rintro _ H6 ⟨rfl,f6⟩;have hw6:=(hw4.no f5).no f6;unfold SS.v;simp(disch:=omega)only[go_sem,seval];have hll:(A++wJ n neg kk ts[x] i).length<=1000000+i:=by rw[lq];omega
      refine Ok.ve ((hw6.no ((Fm.refl No H6).push (aB 0 (arC ⟨gD kk,gD i⟩)))).add ⟨gD kk,gD i⟩ 64 rfl (by omega) (by omega)) ?_;intro w7 H7 hw7;unfold qkb;simp(disch:=go_size)only[go_sem,rB,rI,rK,rL,rN,rS,r6];refine qd8 hC hj hn hkk hv hb ht hx hA hq k (i+1) w7 H7 (by omega) (by omega) ?_;simp_all
    ·have h2':¬ ts[x].sp=bZ (i / 4):=fun h=>h2 ((sJ _ _).1 h);have hap:arP n neg ts[x] i=false:=by unfold arP;rw[qi h2'];simp
     rw[hap]at hsucc;simp only[go_sem,r0',r1',h2];unfold qkb;simp(disch:=go_size)only[go_sem,rB,rI,rK,rL,rN,rS,r6];refine qd8 hC hj hn hkk hv hb ht hx hA hq k (i+1) w H3 (by omega) (by omega) ?_;simp_all
   ·have h1':¬ ts[x].rl=sE:=fun h=>h1 ((sJ _ _).1 h);have hap:arP n neg ts[x] i=false:=by unfold arP;rw[qi h1'];simp
    rw[hap]at hsucc;simp only[go_sem,e1,r0,r1,h1];unfold qkb;simp(disch:=go_size)only[go_sem,rB,rI,rK,rL,rN,rS,r6];refine qd8 hC hj hn hkk hv hb ht hx hA hq k (i+1) w H2 (by omega) (by omega) ?_;simp_all
  ·have he:i=bF L:=by omega
   simp only[go_sem,hlt];simp_all
theorem zaf(L:List (List Nat))(n:Nat):0<(kG L n).length:=by unfold kG tQ;simp
theorem qe0(L:List (List Nat))(n:Nat):(kG L n).length<=5:=by unfold kG;have:=q4f (eG L n 0) (nS (bF L));have h3:nS (bF L)<=3:=bz _ _;split<;>simp<;>omega
theorem qp1(hC:aW C){j:Nat}(hj:3<=j){v:AV}{L:List (List Nat)}{n cb kk:Nat}{neg:Bool}(hn:n<100000)(hkk:kk<100000){S:Nat->Prop}{H0:Hp}{Q:pL}{q:pD}(hv:∀ H',Fm S H0 H'->gV H' v L)(hb:∀ H',Fm S H0 H'->yE H' cb v){ts:List iQ}{tv:AV}(ht:∀ H',Fm S H0 H'->Rs 2 tC H' tv ts)(hts:ts.length<=5){A:List ArS}(hA:A.length<=900000)(hq:∀ w H,nU 4 arC S H0 H w (A++ts.flatMap fun t=>wJ n neg kk t (bF L))->Ok (q w H) Q):∀(k i:Nat) (w:AV) (H:Hp),i<=ts.length->ts.length-i<k->nU 4 arC S H0 H w (A++(ts.take i).flatMap fun t=>wJ n neg kk t (bF L)) -> Ok (qnw (C j) q (iN n) (.bool neg) (.ptr cb 0) (iN kk) tv k w (iN i) H) Q
 |0,i,_,_,_,h,_=>by omega
 |k+1,i,w,H,hi,hk,hw=>by
  show Ok (q3h (C j) _ _ _ _ _ _ (qnw (C j) _ _ _ _ _ _ k) _ _ H) Q;unfold q3h;have hm:bF L<=12:=um _ _;have hl:=(ht _ hw.fm).len;by_cases hlt:i<ts.length
  ·simp only[go_sem,hl,hlt];unfold zgx zgz;rw[dB];have hlen:(A++(ts.take i).flatMap fun t=>wJ n neg kk t (bF L)).length<=1000000:=by
    rw[lq];have h1:=qda (fun t=>wJ n neg kk t (bF L)) 12 (fun t=>tq (q54 n neg kk t _) hm) (ts.take i);have h2:(ts.take i).length<=5:=by rw[qo];omega
    omega
   refine qd8 hC hj hn hkk hv hb ht hlt hlen (fun w2 H2 hw2=>?_) bX 0 w H (gq _) (by rw[dI];omega) ?_
   ·unfold q3e;simp(disch:=omega)only[go_sem];refine qp1 hC hj hn hkk hv hb ht hts hA hq k (i+1) w2 H2 (by omega) (by omega) ?_;rw[ku hlt,uA,uB,<-qw];exact hw2
   ·have:wJ n neg kk ts[i] 0=[]:=by unfold wJ;rw[qv5];rfl
    simp_all
  ·have he:i=ts.length:=by omega
   simp only[go_sem,hl,hlt];simp_all
theorem zuf(L:List (List Nat))(n:Nat)(neg:Bool)(i:Nat)(h:i<=12):(mU L n neg i).length<=60*12:=by unfold mU;have hm:bF L<=12:=um _ _;have h1:=qda (arK L n neg) 60 (fun k=>by unfold arK;have h1:=qda (fun t=>wJ n neg k t (bF L)) 12 (fun t=>tq (q54 n neg k t _) hm) (kG L k);have h2:=qe0 L k;omega) (rg (n / 4*4) i);have h2:=qli (n / 4*4) i;omega
theorem qtd(hC:aW C){j:Nat}(hj:4<=j){v:AV}{L:List (List Nat)}{n cb:Nat}{neg:Bool}(hn:n<100000){H1:Hp}{Q:pL}{q:pD}(hv:gV H1 v L)(hb:yE H1 cb v)(hq:∀ w H,Ac 4 arC H1 H w (mU L n neg (min (bF L) (n / 4*4+4)))->Ok (q w H) Q):∀(k i:Nat) (w:AV) (H:Hp),n / 4*4<=i->i<=max (min (bF L) (n / 4*4+4)) (n / 4*4)->n / 4*4+4-i<k->Ac 4 arC H1 H w (mU L n neg i) -> Ok (qnx (C j) q (iN n) (.bool neg) (.ptr cb 0) k w (iN i) H) Q
 |0,i,_,_,_,_,h,_=>by omega
 |k+1,i,w,H,hi,hi2,hk,hw=>by
  show Ok (q3i (C j) _ _ _ _ (qnx (C j) _ _ _ _ k) _ _ H) Q;unfold q3i;have hm:bF L<=12:=um _ _;have e0:=(hb.fm hw.fm).is;simp only[go_sem,e0];refine Ok.ve (qkz hC (k:=j) (by omega) (hv.fm hw.fm)) ?_;rintro _ H2 ⟨rfl,f2⟩;have hw2:=hw.no f2;by_cases hlt:i<bF L/\i<n / 4*4+4
  ·obtain⟨h1,h2⟩:=hlt;simp(disch:=omega)only[go_sem,h1,h2];unfold zgw;have e2:=(hb.fm hw2.fm).is;simp only[go_sem,seval,e2];refine Ok.ve (q7j hC (k:=j) (by omega) (hv.fm hw2.fm) h1) ?_;intro tv H3 ht;have hw3:=hw2.no ht.fm;unfold zg0;rw[dB];have hAl:=zuf L n neg i (by omega);have dj:∀ b,In tv b->¬ In w b:=fun b h1 h2=>by
    have:=ht.nw b h1;have:=hw2.gl.lt h2;omega
   refine qp1 (A:=mU L n neg i) (S:=In w) hC (by omega) hn (by omega) (fun H' f=>hv.fm (hw3.old f)) (fun H' f=>hb.fm (hw3.old f)) (fun H' f=>(ht.rs qgg).iH f dj) (qe0 L i) (by omega) (fun w4 H4 hw4=>?_) bX 0 w H3 (gq _) (by have:=qe0 L i;rw[dI];omega) ?_
   ·unfold q3f;simp(disch:=omega)only[go_sem];refine qtd hC hj hn hv hb hq k (i+1) w4 H4 (by omega) (by omega) (by omega) ?_;have:mU L n neg (i+1)=mU L n neg i++arK L n neg i:=by
     unfold mU;rw[qkr hi,uA,uB]
    rw[this];exact hw3.fin hw4
   ·rw[dE,List.flatMap_nil,uh];exact hw3.start
  ·have he:rg (n / 4*4) i=rg (n / 4*4) (min (bF L) (n / 4*4+4)):=by
    by_cases h:n / 4*4<=min (bF L) (n / 4*4+4)
    ·congr 1;omega
    ·unfold rg;rw[vk (by simp;omega),vk (by simp;omega)]
   unfold mU at hw2;rw[he]at hw2;by_cases h1:i<bF L
   ·have h2:¬ i<n / 4*4+4:=fun h=>hlt ⟨h1,h⟩;simp(disch:=omega)only[go_sem,h1,h2];exact hq w H2 hw2
   ·simp only[go_sem,h1];exact hq w H2 hw2
def lI(L:List (List Nat))(n:Nat)(neg:Bool):List ArS:=mU L n neg (min (bF L) (n / 4*4+4))
def aNr(neg:Bool):AV:=if neg then ruV 2 (gD 0) sE .aA else ruV 1 sE sE .aA
def aEn(L:List (List Nat))(n c:Nat)(neg:Bool):AV:=
 if(lI L n neg).length=0 then aNr neg else ruV 3 ((lI L n neg).getD (c%(lI L n neg).length) ⟨sE,sE⟩).rl ((lI L n neg).getD (c%(lI L n neg).length) ⟨sE,sE⟩).to .aA
theorem zue(hC:aW C)(hk:6<=k){v:AV}{L:List (List Nat)}{n c:Nat}(hv:gV H v L)(hn:n<100000)(hc:c<256):Ok (C k (.f 78) [.agg [v],iN n,.int .u8 (.ofNat c),.bool neg] H) fun r H'=>r=aEn L n c neg/\Fm No H H':=by
 obtain⟨j,rfl⟩:=aS hk;rw[(hC j).zBg];unfold zBg zzw;simp(disch:=omega)only[go_sem];unfold zg1;rw[dB];have f1:Fm No H (aO (aO H (aB 0 [v])) (aB 0 [.int .u8 (.ofNat 0),.str 0 0,.str 0 0,.aA])):=by exact pU
 have f1':Fm No (aO H (aB 0 [v])) (aO (aO H (aB 0 [v])) (aB 0 [.int .u8 (.ofNat 0),.str 0 0,.str 0 0,.aA])):=by exact jY
 have hcb:yE (aO H (aB 0 [v])) H.nx v:=⟨by simp only[np,nq];omega,by simp(disch:=omega)only[go_sem]⟩;refine qtd hC (by omega) hn (hv.fm f1) (hcb.fm f1') (fun w H2 hw=>?_) bX (n / 4*4) .aA _ (lg _) (by omega) (by rw[dI];omega) ?_
 ·unfold qul;have hl:=hw.cO;have f2:=hw.fm;have ex:=f2.nx;simp only[np]at ex;have k2:H2.get (H.nx+1)=aB 0 [.int .u8 (.ofNat 0),.str 0 0,.str 0 0,.aA]:=(f2.keep (by simp only[np,nq];omega)).trans (by simp(disch:=go_size)only[go_sem]);unfold aEn lI;by_cases h0:(mU L n neg (min (bF L) (n / 4*4+4))).length=0
  ·rw[pz h0];simp only[go_sem,hl,h0];refine Ok.ve (qgo hC (k:=j) (by omega) neg H2) ?_;rintro _ H3 ⟨rfl,f3⟩;have k3:H3.get (H.nx+1)=aB 0 [.int .u8 (.ofNat 0),.str 0 0,.str 0 0,.aA]:=(f3.keep (by omega)).trans k2;cases neg<;>(unfold ruV;simp only[go_sem,seval,k3];exact Ok.ret ⟨rfl,((f1.trans f2).trans f3).aF _ _ (by omega)⟩)
  ·rw[kz h0];simp only[go_sem,hl,h0];unfold zv0;have hmod:c%(mU L n neg (min (bF L) (n / 4*4+4))).length<(mU L n neg (min (bF L) (n / 4*4+4))).length:=xF _ (by omega);obtain⟨b,o,e1,e2,e3⟩:=(hw.rs z3n).qI hmod;unfold arC at e3;simp(disch:=omega)only[go_sem,seval,hl,e1,e3,k2];refine Ok.ret ⟨?_,(f1.trans f2).aF _ _ (by omega)⟩;rw[kw,lh hmod];rfl
 ·unfold mU;rw[qv5];exact Ac.nil _ _ (Fm.refl _ _)
inductive Ru where
 |leaf (kind:Nat) (rl to:SS)
 |node (kind:Nat) (a b:Ru)
 deriving DecidableEq
def Ru.kind:Ru->Nat
 | .leaf k _ _=>k
 | .node k _ _=>k
def lfC(k:Nat)(rl to:SS):List AV:=[.int .u8 (.ofNat k),rl.v,to.v,.aA]
def jN(P:Nat->Prop)(H:Hp):Ru->List AV->Prop
 | .leaf k rl to,cs=>cs=lfC k rl to
 | .node k a b,cs=>∃ bl ca cb,cs=[.int .u8 (.ofNat k),sE.v,sE.v,.sl bl 0 2 2 true]/\bl<H.nx/\P bl/\H.get bl=aB 0 (ca++cb)/\jN P H a ca/\jN P H b cb
theorem jN.iH{P S:Nat->Prop}{H H':Hp}(f:Fm S H H')(hs:∀ b,P b->¬ S b):∀{r:Ru} {cs:List AV},jN P H r cs->jN P H' r cs
 | .leaf _ _ _,_,h=>h
 | .node _ _ _,_,⟨bl,ca,cb,h1,h2,h6,h3,h4,h5⟩=>⟨bl,ca,cb,h1,lL h2 f.nx,h6,by rw[f.get bl h2 (hs bl h6)];exact h3,jN.iH f hs h4,jN.iH f hs h5⟩
theorem jN.fm{P:Nat->Prop}(f:Fm No H H'){r:Ru}(h:jN P H r cs):jN P H' r cs:=h.iH f fun _ _ h=>h
theorem jN.mono{P Q:Nat->Prop}{H:Hp}(hq:∀ b,b<H.nx->P b->Q b):∀{r:Ru} {cs:List AV},jN P H r cs->jN Q H r cs
 | .leaf _ _ _,_,h=>h
 | .node _ _ _,_,⟨bl,ca,cb,h1,h2,h6,h3,h4,h5⟩=>⟨bl,ca,cb,h1,h2,hq bl h2 h6,h3,jN.mono hq h4,jN.mono hq h5⟩
theorem jN.four{P:Nat->Prop}:∀{r:Ru} {cs:List AV},jN P H r cs->∃ a b c d,cs=[a,b,c,d]
 | .leaf _ _ _,_,h=>⟨_,_,_,_,h⟩
 | .node _ _ _,_,⟨_,_,_,h1,_⟩=>⟨_,_,_,_,h1⟩
def qjt(neg:Bool):Ru:=if neg then .leaf 2 (gD 0) sE else .leaf 1 sE sE
def uM(L:List (List Nat))(n c:Nat)(neg:Bool):Ru:=
 if(lI L n neg).length=0 then qjt neg else .leaf 3 ((lI L n neg).getD (c%(lI L n neg).length) ⟨sE,sE⟩).rl ((lI L n neg).getD (c%(lI L n neg).length) ⟨sE,sE⟩).to
theorem qgp(neg:Bool):∃ k rl to,qjt neg=.leaf k rl to/\(if neg then ruV 2 (gD 0) sE .aA else ruV 1 sE sE .aA)=.agg [.int .u8 (.ofNat k),.str rl.n rl.a,.str to.n to.a,.aA]:=by
 cases neg
 ·exact⟨1,sE,sE,rfl,rfl⟩
 ·exact⟨2,gD 0,sE,rfl,rfl⟩
theorem z81(L:List (List Nat))(n c:Nat)(neg:Bool):∃ k rl to,uM L n c neg=.leaf k rl to/\aEn L n c neg=.agg [.int .u8 (.ofNat k),.str rl.n rl.a,.str to.n to.a,.aA]:=by
 unfold uM aEn;by_cases h:(lI L n neg).length=0
 ·rw[pz h,pz h];exact qgp neg
 ·rw[kz h,kz h];exact⟨_,_,_,rfl,rfl⟩
def z8(L:List (List Nat))(n c:Nat)(neg:Bool):Ru:=.leaf 2 ((cmpL (bF L) n neg).getD (c%(cmpL (bF L) n neg).length) sE) sE
def uU(n c:Nat):Nat:=if c%8=6 then 5 else if c%8=7/\0<lvl n then 6 else 4
def eT(L:List (List Nat))(n:Nat):Nat->Nat->Bool->Ru×Nat
 |0,i,neg=>(qjt neg,i)
 |d+1,i,neg=>
  if(L.getD n []).length<=i\/12<=i then(qjt neg,i)else
  if eG L n i%8<2 then(qjt neg,i+1)else
  if eG L n i%8<4 then(z8 L n (eG L n i / 8) neg,i+1)else
  if eG L n i%8=4 then(uM L n (eG L n i / 8) neg,i+1)else
  let a:=eT L n d (i+1) neg
  let b:=eT L n d a.2 (neg||decide (uU n (eG L n i)=6))
  (.node (uU n (eG L n i)) a.1 b.1,b.2)
theorem qmi(L:List (List Nat))(n:Nat):∀(d i:Nat) (neg:Bool),i<=max i 12/\(eT L n d i neg).2<=max i 12
 |0,i,neg=>by unfold eT;omega
 |d+1,i,neg=>by
  unfold eT;split
  ·omega
  split
  ·omega
  split
  ·omega
  split
  ·omega
  have h1:=(qmi L n d (i+1) neg).2;have h2:=(qmi L n d (eT L n d (i+1) neg).2 (neg||decide (uU n (eG L n i)=6))).2;simp only;omega
def zxd(C:Nat->Ev.Call)(L:List (List Nat))(n:Nat)(v:AV)(k d:Nat):Prop:=
 ∀(i dep:Nat) (neg:Bool) (H:Hp),dep+d=7->i<1000000->gV H v L->At (bF L) n neg ->
  Ok (C k (.f 49) [.agg [v],iN n,iN i,iN dep,.bool neg] H) fun r H'=>
   ∃cs,r=.aX [.agg cs,iN ((eT L n d i neg).2)]/\jN (fun b=>H.nx<=b) H' (eT L n d i neg).1 cs/\Fm No H H'
theorem qmh{j d:Nat}{L:List (List Nat)}{v:AV}(hR:zxd C L n v j d){i dep kd:Nat}(hd:dep+d+1=7)(hi:i<900000)(hv:gV H v L)(hA:At (bF L) n neg)(hA2:At (bF L) n (neg||decide (kd=6))){cb rb:Nat}(hcb:yE H cb v)(f0:Fm No H0 H)(cAE:H0.nx<=rb)(hrb:rb<H.nx)(hr:H.get rb=aB 0 [.int .u8 (.ofNat 0),.str 0 0,.str 0 0,.aA])(hne:cb<rb\/rb<cb):Ok (qh6 (C j) (iN n) (iN i) (iN dep) (.bool neg) (.ptr cb 0) (.ptr rb 0) (.int .u8 (.ofNat kd)) H) fun r H'=>
   ∃cs,r=.aX [.agg cs,iN ((eT L n d (eT L n d i neg).2 (neg||decide (kd=6))).2)] /\
    jN (fun b=>H0.nx<=b) H' (.node kd (eT L n d i neg).1 (eT L n d (eT L n d i neg).2 (neg||decide (kd=6))).1) cs/\Fm No H0 H':=by
 unfold qh6;have e0:=hcb.is;simp(disch:=omega)only[go_sem,e0];simp(disch:=first|go_size|omega)only[go_sem,rB,rI,rK,rL,rN,rS,r6];refine Ok.ve (hR i (dep+1) neg H (by omega) (by omega) hv hA) ?_;rintro _ H1 ⟨ca,rfl,hca,f1⟩;obtain⟨a0,a1,a2,a3,rfl⟩:=hca.four;have hat:=(qmi L n d i neg).2;have fX:Fm No H1 ((aO H1 (aB 0 [.int .u8 (.ofNat 0),.str 0 0,.str 0 0,.aA])).put H1.nx (aB 0 [a0,a1,a2,a3])):=by exact oJ
 have c1:=hcb.fm f1;have e1:=c1.is;have l1:=c1.lt;have n1:=f1.nx;cases neg<;>(
  simp(disch:=go_size)only[go_sem,rB,rI,rK,rL,rN,rS,r6,e1];refine Ok.ve (hR _ (dep+1) _ _ (by omega) (by omega) ((hv.fm f1).fm fX) hA2) ?_;rintro _ H2 ⟨cb2,rfl,aDX,f2⟩;obtain⟨b0,b1,b2,b3,rfl⟩:=aDX.four;have n2:=f2.nx;simp only[np,nq]at n2;have k2:H2.get H1.nx=aB 0 [a0,a1,a2,a3]:=(f2.keep (by simp only[np,nq];omega)).trans (by simp only[go_sem]);have r2:H2.get rb=aB 0 [.int .u8 (.ofNat 0),.str 0 0,.str 0 0,.aA]:=((f1.trans (fX.trans f2)).keep hrb).trans hr;simp(disch:=first|go_size|omega)only[go_sem,seval,k2,r2];have fZ:Fm (fun b=>b=rb) H2 (((aO ((aO H2 (aB 0 [.int .u8 (.ofNat 0),.str 0 0,.str 0 0,.aA])).put H2.nx (aB 0 [b0,b1,b2,b3])) (aB 0 [a0,a1,a2,a3,b0,b1,b2,b3]))).put rb (aB 0 [.int .u8 (.ofNat kd),.str 0 0,.str 0 0,.sl (H2.nx+1) 0 2 2 true])):=by(repeat(first|exact Fm.refl _ _|assumption|refine Fm.push ?_ _|refine Fm.lF ?_ (by go_size)|refine Fm.aF ?_ _ _ (by go_size)|refine Fm.put ?_ _ _ (fun _=>rfl)))
  have fF:=(((f0.trans f1).trans fX).trans f2).then fZ fun c hc h=>by omega
  refine Ok.ret ⟨_,rfl,⟨H2.nx+1,_,_,rfl,by simp only[np,nq];omega,by omega,?_,(((hca.fm fX).fm f2).iH fZ fun b h1 h2=>by omega).mono fun b _ h=>by omega,(aDX.iH fZ fun b h1 h2=>by simp only[np,nq]at h1;omega).mono fun b _ h=>by simp only[np,nq]at h;omega⟩,fF⟩;simp(disch:=go_size)only[go_sem])
theorem z0w(hC:aW C){L:List (List Nat)}{v:AV}:∀(d k:Nat),10+d<=k->zxd C L n v k d:=by
 intro d
 induction d with
 |zero=>
  intro k hk i dep neg H hd hi hv hA;obtain⟨j,rfl⟩:∃ j,k=j+1:=⟨k-1,by omega⟩;rw[(hC j).zAp];unfold zAp zq6;have hnL:n<L.length:=lL hA.lt (bz _ _);have fX:Fm No H (aO (aO H (aB 0 [v])) (aB 0 [.int .u8 (.ofNat 0),.str 0 0,.str 0 0,.aA])):=by exact pU
  obtain⟨b,o,w,e1,e2,e3,e4⟩:=(hv.fm fX).at hnL;have el:=e4.len;rw[show(yB L[n]).length=L[n].length by simp[yB]]at el;have h3:6<dep:=by omega
  have mE:eT L n 0 i neg=(qjt neg,i):=rfl;rw[mE];by_cases h1:L[n].length<=i
  ·simp(disch:=first|go_size|omega)only[go_sem,rB,rI,rK,rL,rN,rS,r6,e1,e3,el,h1];refine Ok.ve (qgo hC (k:=j) (by omega) neg _) ?_;rintro _ H3 ⟨rfl,f3⟩;obtain⟨lk,lr,lt,el,ev⟩:=qgp neg;rw[ev];have k3:H3.get (H.nx+1)=aB 0 [.int .u8 (.ofNat 0),.str 0 0,.str 0 0,.aA]:=(f3.keep (by go_size)).trans (by simp(disch:=go_size)only[go_sem,seval]);have n3:=f3.nx;simp only[go_sem,seval,k3];exact Ok.ret ⟨_,rfl,by rw[el];rfl,(fX.trans f3).aF _ _ (by omega)⟩
  ·by_cases h2:12<=i
   ·simp(disch:=first|go_size|omega)only[go_sem,rB,rI,rK,rL,rN,rS,r6,e1,e3,el,h1,h2];refine Ok.ve (qgo hC (k:=j) (by omega) neg _) ?_;rintro _ H3 ⟨rfl,f3⟩;obtain⟨lk,lr,lt,el,ev⟩:=qgp neg;rw[ev];have k3:H3.get (H.nx+1)=aB 0 [.int .u8 (.ofNat 0),.str 0 0,.str 0 0,.aA]:=(f3.keep (by go_size)).trans (by simp(disch:=go_size)only[go_sem,seval]);have n3:=f3.nx;simp only[go_sem,seval,k3];exact Ok.ret ⟨_,rfl,by rw[el];rfl,(fX.trans f3).aF _ _ (by omega)⟩
   ·simp(disch:=first|go_size|omega)only[go_sem,rB,rI,rK,rL,rN,rS,r6,e1,e3,el,h1,h2,h3];refine Ok.ve (qgo hC (k:=j) (by omega) neg _) ?_;rintro _ H3 ⟨rfl,f3⟩;obtain⟨lk,lr,lt,el,ev⟩:=qgp neg;rw[ev];have k3:H3.get (H.nx+1)=aB 0 [.int .u8 (.ofNat 0),.str 0 0,.str 0 0,.aA]:=(f3.keep (by go_size)).trans (by simp(disch:=go_size)only[go_sem,seval]);have n3:=f3.nx;simp only[go_sem,seval,k3];exact Ok.ret ⟨_,rfl,by rw[el];rfl,(fX.trans f3).aF _ _ (by omega)⟩
 |succ d ih=>
  intro k hk i dep neg H hd hi hv hA;obtain⟨j,rfl⟩:∃ j,k=j+1:=⟨k-1,by omega⟩;rw[(hC j).zAp];unfold zAp zq6;have hnL:n<L.length:=lL hA.lt (bz _ _);have bT1:n<12:=lL hA.lt hA.le;have fX:Fm No H (aO (aO H (aB 0 [v])) (aB 0 [.int .u8 (.ofNat 0),.str 0 0,.str 0 0,.aA])):=by exact pU
  have hvX:=hv.fm fX;have zF:yE (aO (aO H (aB 0 [v])) (aB 0 [.int .u8 (.ofNat 0),.str 0 0,.str 0 0,.aA])) H.nx v:=⟨by(first|go_size|omega),by simp(disch:=first|go_size|omega)only[go_sem,seval]⟩;have hrX:(aO (aO H (aB 0 [v])) (aB 0 [.int .u8 (.ofNat 0),.str 0 0,.str 0 0,.aA])).get (H.nx+1)=aB 0 [.int .u8 (.ofNat 0),.str 0 0,.str 0 0,.aA]:=by simp(disch:=go_size)only[go_sem,seval]
  obtain⟨b,o,w,e1,e2,e3,e4⟩:=hvX.at hnL;have el:=e4.len;rw[show(yB L[n]).length=L[n].length by simp[yB]]at el;have hnd:L.getD n []=L[n]:=by rw[kw,lh hnL];rfl
  have h3:¬ 6<dep:=by omega
  by_cases hs:L[n].length<=i\/12<=i
  ·have mE:eT L n (d+1) i neg=(qjt neg,i):=by unfold eT;rw[hnd,pz hs]
   rw[mE];by_cases h1:L[n].length<=i
   ·simp(disch:=first|go_size|omega)only[go_sem,rB,rI,rK,rL,rN,rS,r6,e1,e3,el,h1];refine Ok.ve (qgo hC (k:=j) (by omega) neg _) ?_;rintro _ H3 ⟨rfl,f3⟩;obtain⟨lk,lr,lt,el,ev⟩:=qgp neg;rw[ev];have k3:H3.get (H.nx+1)=aB 0 [.int .u8 (.ofNat 0),.str 0 0,.str 0 0,.aA]:=(f3.keep (by go_size)).trans (by simp(disch:=go_size)only[go_sem,seval]);have n3:=f3.nx;simp only[go_sem,seval,k3];exact Ok.ret ⟨_,rfl,by rw[el];rfl,(fX.trans f3).aF _ _ (by omega)⟩
   ·have h2:12<=i:=by omega
    simp(disch:=first|go_size|omega)only[go_sem,rB,rI,rK,rL,rN,rS,r6,e1,e3,el,h1,h2];refine Ok.ve (qgo hC (k:=j) (by omega) neg _) ?_;rintro _ H3 ⟨rfl,f3⟩;obtain⟨lk,lr,lt,el,ev⟩:=qgp neg;rw[ev];have k3:H3.get (H.nx+1)=aB 0 [.int .u8 (.ofNat 0),.str 0 0,.str 0 0,.aA]:=(f3.keep (by go_size)).trans (by simp(disch:=go_size)only[go_sem,seval]);have n3:=f3.nx;simp only[go_sem,seval,k3];exact Ok.ret ⟨_,rfl,by rw[el];rfl,(fX.trans f3).aF _ _ (by omega)⟩
  ·have h1:¬ L[n].length<=i:=by omega
   have h2:¬ 12<=i:=by omega
   have hil:i<L[n].length:=by omega
   obtain⟨b1,o1,g1,g2,g3⟩:=e4.at' i (by simp[yB];omega);have hwv:(yB L[n])[i]'(by simp[yB];omega)=.int .u8 (.ofNat (eG L n i)):=by unfold eG;rw[hnd,kw,lh hil];simp[yB]
   rw[hwv]at g3;have hc:=q9w hv n i;simp(disch:=first|go_size|omega)only[go_sem,rB,rI,rK,rL,rN,rS,r6,e1,e3,el,h1,h2,h3];unfold zht;have h8:eG L n i%8=0\/eG L n i%8=1\/eG L n i%8=2\/eG L n i%8=3\/eG L n i%8=4\/eG L n i%8=5\/eG L n i%8=6\/eG L n i%8=7:=by omega
   rcases h8 with h|h|h|h|h|h|h|h
   ·have mE:eT L n (d+1) i neg=(qjt neg,i+1):=by unfold eT;rw[hnd,kz hs,pz (by omega)]
    rw[mE];simp(disch:=first|omega|exact ti rfl|simp only[np,nq];first|done|omega)only[go_sem,rB,rI,rK,rL,rN,rS,r6,e1,e3,g1,g3,h];unfold qd0;refine Ok.ve (qgo hC (k:=j) (by omega) neg _) ?_;rintro _ H3 ⟨rfl,f3⟩;obtain⟨lk,lr,lt,el,ev⟩:=qgp neg;rw[ev];have k3:H3.get (H.nx+1)=aB 0 [.int .u8 (.ofNat 0),.str 0 0,.str 0 0,.aA]:=(f3.keep (by go_size)).trans (by simp(disch:=go_size)only[go_sem,seval]);have n3:=f3.nx;simp(disch:=go_size)only[go_sem,rB,rI,rK,rL,rN,rS,r6,k3];exact Ok.ret ⟨_,rfl,by rw[el];rfl,(fX.trans f3).aF _ _ (by omega)⟩
   ·have mE:eT L n (d+1) i neg=(qjt neg,i+1):=by unfold eT;rw[hnd,kz hs,pz (by omega)]
    rw[mE];simp(disch:=first|omega|exact ti rfl|simp only[np,nq];first|done|omega)only[go_sem,rB,rI,rK,rL,rN,rS,r6,e1,e3,g1,g3,h];unfold qd0;refine Ok.ve (qgo hC (k:=j) (by omega) neg _) ?_;rintro _ H3 ⟨rfl,f3⟩;obtain⟨lk,lr,lt,el,ev⟩:=qgp neg;rw[ev];have k3:H3.get (H.nx+1)=aB 0 [.int .u8 (.ofNat 0),.str 0 0,.str 0 0,.aA]:=(f3.keep (by go_size)).trans (by simp(disch:=go_size)only[go_sem,seval]);have n3:=f3.nx;simp only[go_sem,seval,k3];exact Ok.ret ⟨_,rfl,by rw[el];rfl,(fX.trans f3).aF _ _ (by omega)⟩
   ·have mE:eT L n (d+1) i neg=(z8 L n (eG L n i / 8) neg,i+1):=by unfold eT;rw[hnd,kz hs,kz (by omega),pz (by omega)]
    rw[mE];simp(disch:=first|omega|exact ti rfl|simp only[np,nq];first|done|omega)only[go_sem,rB,rI,rK,rL,rN,rS,r6,e1,e3,g1,g3,h];unfold qd0;unfold qfg;have c1:=zF.is;simp(disch:=go_size)only[go_sem,rB,rI,rK,rL,rN,rS,r6,c1];refine Ok.ve (qpw hC (k:=j) (by omega) hvX hA (by omega)) ?_;rintro _ H3 ⟨rfl,f3⟩;obtain⟨lk,lr,lt,el,ev⟩:=(⟨2,(cmpL (bF L) n neg).getD (eG L n i / 8%(cmpL (bF L) n neg).length) sE,sE,rfl,rfl⟩:∃ k rl to,z8 L n (eG L n i / 8) neg=.leaf k rl to/\ruV 2 ((cmpL (bF L) n neg).getD (eG L n i / 8%(cmpL (bF L) n neg).length) sE) sE .aA=.agg [.int .u8 (.ofNat k),.str rl.n rl.a,.str to.n to.a,.aA]);rw[ev];have k3:H3.get (H.nx+1)=aB 0 [.int .u8 (.ofNat 0),.str 0 0,.str 0 0,.aA]:=(f3.keep (by go_size)).trans (by simp(disch:=go_size)only[go_sem,seval]);have n3:=f3.nx;simp only[go_sem,seval,k3];exact Ok.ret ⟨_,rfl,by rw[el];rfl,(fX.trans f3).aF _ _ (by omega)⟩
   ·have mE:eT L n (d+1) i neg=(z8 L n (eG L n i / 8) neg,i+1):=by unfold eT;rw[hnd,kz hs,kz (by omega),pz (by omega)]
    rw[mE];simp(disch:=first|omega|exact ti rfl|simp only[np,nq];first|done|omega)only[go_sem,rB,rI,rK,rL,rN,rS,r6,e1,e3,g1,g3,h];unfold qd0;unfold qfg;have c1:=zF.is;simp(disch:=go_size)only[go_sem,rB,rI,rK,rL,rN,rS,r6,c1];refine Ok.ve (qpw hC (k:=j) (by omega) hvX hA (by omega)) ?_;rintro _ H3 ⟨rfl,f3⟩;obtain⟨lk,lr,lt,el,ev⟩:=(⟨2,(cmpL (bF L) n neg).getD (eG L n i / 8%(cmpL (bF L) n neg).length) sE,sE,rfl,rfl⟩:∃ k rl to,z8 L n (eG L n i / 8) neg=.leaf k rl to/\ruV 2 ((cmpL (bF L) n neg).getD (eG L n i / 8%(cmpL (bF L) n neg).length) sE) sE .aA=.agg [.int .u8 (.ofNat k),.str rl.n rl.a,.str to.n to.a,.aA]);rw[ev];have k3:H3.get (H.nx+1)=aB 0 [.int .u8 (.ofNat 0),.str 0 0,.str 0 0,.aA]:=(f3.keep (by go_size)).trans (by simp(disch:=go_size)only[go_sem,seval]);have n3:=f3.nx;simp only[go_sem,seval,k3];exact Ok.ret ⟨_,rfl,by rw[el];rfl,(fX.trans f3).aF _ _ (by omega)⟩
   ·have mE:eT L n (d+1) i neg=(uM L n (eG L n i / 8) neg,i+1):=by unfold eT;rw[hnd,kz hs,kz (by omega),kz (by omega),pz h]
    rw[mE];simp(disch:=first|omega|exact ti rfl|simp only[np,nq];first|done|omega)only[go_sem,rB,rI,rK,rL,rN,rS,r6,e1,e3,g1,g3,h];unfold qd0;unfold qfg;have c1:=zF.is;simp(disch:=go_size)only[go_sem,rB,rI,rK,rL,rN,rS,r6,c1];refine Ok.ve (zue hC (k:=j) (by omega) hvX (by omega) (by omega)) ?_;rintro _ H3 ⟨rfl,f3⟩;obtain⟨lk,lr,lt,el,ev⟩:=z81 L n (eG L n i / 8) neg;rw[ev];have k3:H3.get (H.nx+1)=aB 0 [.int .u8 (.ofNat 0),.str 0 0,.str 0 0,.aA]:=(f3.keep (by go_size)).trans (by simp(disch:=go_size)only[go_sem,seval]);have n3:=f3.nx;simp only[go_sem,seval,k3];exact Ok.ret ⟨_,rfl,by rw[el];rfl,(fX.trans f3).aF _ _ (by omega)⟩
   ·have hkd:uU n (eG L n i)=4:=by unfold uU;rw[kz (by omega),kz (by omega)]
    have hA2:At (bF L) n (neg||decide (4=6)):=by simpa using hA
    have mE:eT L n (d+1) i neg=(.node 4 (eT L n d (i+1) neg).1 (eT L n d (eT L n d (i+1) neg).2 (neg||decide (4=6))).1,(eT L n d (eT L n d (i+1) neg).2 (neg||decide (4=6))).2):=by rw[eT,hnd,kz hs,kz (by omega),kz (by omega),kz (by omega),hkd]
    rw[mE];simp(disch:=first|omega|exact ti rfl|simp only[np,nq];first|done|omega)only[go_sem,rB,rI,rK,rL,rN,rS,r6,e1,e3,g1,g3,h];unfold qd0;unfold qfg;exact qmh (ih j (by omega)) (by omega) (by omega) hvX hA hA2 zF fX (by omega) (by first|omega|simp only[np,nq];omega) hrX (by omega)
   ·have hkd:uU n (eG L n i)=5:=by unfold uU;rw[pz h]
    have hA2:At (bF L) n (neg||decide (5=6)):=by simpa using hA
    have mE:eT L n (d+1) i neg=(.node 5 (eT L n d (i+1) neg).1 (eT L n d (eT L n d (i+1) neg).2 (neg||decide (5=6))).1,(eT L n d (eT L n d (i+1) neg).2 (neg||decide (5=6))).2):=by rw[eT,hnd,kz hs,kz (by omega),kz (by omega),kz (by omega),hkd]
    rw[mE];simp(disch:=first|omega|exact ti rfl|simp only[np,nq];first|done|omega)only[go_sem,rB,rI,rK,rL,rN,rS,r6,e1,e3,g1,g3,h];unfold qd0;unfold qfg;exact qmh (ih j (by omega)) (by omega) (by omega) hvX hA hA2 zF fX (by omega) (by first|omega|simp only[np,nq];omega) hrX (by omega)
   ·by_cases hup:0<lvl n
    ·have hkd:uU n (eG L n i)=6:=by unfold uU;rw[kz (by omega),pz ⟨h,hup⟩]
     have hA2:At (bF L) n (neg||decide (6=6)):=⟨hA.lt,hA.le,fun _=>hup⟩;have mE:eT L n (d+1) i neg=(.node 6 (eT L n d (i+1) neg).1 (eT L n d (eT L n d (i+1) neg).2 (neg||decide (6=6))).1,(eT L n d (eT L n d (i+1) neg).2 (neg||decide (6=6))).2):=by rw[eT,hnd,kz hs,kz (by omega),kz (by omega),kz (by omega),hkd]
     rw[mE];simp(disch:=first|omega|exact ti rfl|simp only[np,nq];first|done|omega)only[go_sem,rB,rI,rK,rL,rN,rS,r6,e1,e3,g1,g3,h];unfold qd0;unfold qfg;refine Ok.ve (qej hC (k:=j) (by omega) n (by omega) _) ?_;rintro _ H3 ⟨rfl,f3⟩;have r3:H3.get (H.nx+1)=aB 0 [.int .u8 (.ofNat 0),.str 0 0,.str 0 0,.aA]:=(f3.keep (by simp only[np,nq];omega)).trans hrX;have n3:=f3.nx;simp only[np]at n3;simp only[go_sem,hup];exact qmh (ih j (by omega)) (by omega) (by omega) (hvX.fm f3) hA hA2 (zF.fm f3) (fX.trans f3) (by omega) (by omega) r3 (by omega)
    ·have hkd:uU n (eG L n i)=4:=by unfold uU;rw[kz (by omega),kz (fun h=>hup h.2)]
     have hA2:At (bF L) n (neg||decide (4=6)):=by simpa using hA
     have mE:eT L n (d+1) i neg=(.node 4 (eT L n d (i+1) neg).1 (eT L n d (eT L n d (i+1) neg).2 (neg||decide (4=6))).1,(eT L n d (eT L n d (i+1) neg).2 (neg||decide (4=6))).2):=by rw[eT,hnd,kz hs,kz (by omega),kz (by omega),kz (by omega),hkd]
     rw[mE];simp(disch:=first|omega|exact ti rfl|simp only[np,nq];first|done|omega)only[go_sem,rB,rI,rK,rL,rN,rS,r6,e1,e3,g1,g3,h];unfold qd0;unfold qfg;refine Ok.ve (qej hC (k:=j) (by omega) n (by omega) _) ?_;rintro _ H3 ⟨rfl,f3⟩;have r3:H3.get (H.nx+1)=aB 0 [.int .u8 (.ofNat 0),.str 0 0,.str 0 0,.aA]:=(f3.keep (by simp only[np,nq];omega)).trans hrX;have n3:=f3.nx;simp only[np]at n3;simp only[go_sem,hup];exact qmh (ih j (by omega)) (by omega) (by omega) (hvX.fm f3) hA hA2 (zF.fm f3) (fX.trans f3) (by omega) (by omega) r3 (by omega)
theorem jN.flat{P:Nat->Prop}:∀{r:Ru} {cs:List AV},jN P H r cs->cs.all xO=true
 | .leaf _ _ _,_,h=>by rw[show _=_ from h];rfl
 | .node _ _ _,_,⟨_,_,_,h1,_⟩=>by rw[h1];rfl
structure Nd where
 k:Nat
 rl:SS
 to:SS
 neg:Bool
 deriving DecidableEq
def kW(x:Nd×AV):List AV:=[.int .u8 (.ofNat x.1.k),x.1.rl.v,x.1.to.v,x.2,.bool x.1.neg]
theorem qig(x:Nd×AV):(kW x).length=5:=rfl
def Ru.nodes:Ru->Bool->List Nd
 | .leaf k rl to,neg=>[⟨k,rl,to,neg⟩]
 | .node k a b,neg=>⟨k,sE,sE,neg⟩::(a.nodes neg++b.nodes (neg||decide (k=6)))
def Ru.size:Ru->Nat
 | .leaf _ _ _=>1
 | .node _ a b=>a.size+b.size+1
def Ru.depth:Ru->Nat
 | .leaf _ _ _=>1
 | .node _ a b=>max a.depth b.depth+1
theorem qce:∀(r:Ru) (neg:Bool),(r.nodes neg).length=r.size
 | .leaf _ _ _,_=>rfl
 | .node _ a b,neg=>by unfold Ru.nodes Ru.size;rw[pg,lq,qce a,qce b]
theorem zje(L:List AV)(o i:Nat)(x:AV)(h:o+i<L.length):(bD L (o+i) [x]).drop o=bD (L.drop o) i [x]:=by unfold bD;simp only[pg,uo,qf,qw];rw[xu (by simp;omega),List.drop_take,zo,lAI];congr 3
theorem Gl.set1{v:AV}(h:Gl z H v n l)(hi:i<n)(hj:j<z)(x:AV):∃b o H',aH z v (iN i)=.val (.ptr b o)/\storeAt H b (o+j) [x] .undef=.ok .undef H'/\Gl z H' v n (bD l (i*z+j) [x])/\Fm (In v) H H'/\H'.nx=H.nx:=by
 have hl:=h.len;rcases h.is with⟨rfl,rfl⟩|⟨b,o,e,q,L,rfl,h1,h2,h3,h4,h5⟩
 ·omega
 ·have hm:i*z+z<=n*z:=by
   have:(i+1)*z<=n*z:=uz z hi;rw[xh,au]at this;exact this
  have hL:o+n*z=L.length:=by rw[<-h3,xg]at hl;omega
  have hs:o+i*z+j+[x].length<=L.length:=by simp;omega
  have hb:i*z+j+[x].length<=l.length:=by rw[hl];simp;omega
  refine⟨b,o+i*z,_,sV _ _ _ _ _ _ _ _ hi,qch H b _ [x] _ q L h1 hs,⟨?_,.inr ⟨b,o,e,q,_,rfl,dS _ _ _,?_,?_,h4,h5⟩⟩,(Fm.refl _ _).put b _ fun _=>⟨_,_,_,_,rfl⟩,rfl⟩
  ·rw[qd2 _ _ _ hb,hl]
  ·rw[qd2 _ _ _ hs];exact h2
  ·rw[uk,zje _ _ _ _ (by omega),h3]
theorem zkp(a:AV):∀(l:List (Nd×AV)) (i:Nat) (h:i<l.length),bD (l.flatMap kW) (i*5+3) [a]=(l.set i (l[i].1,a)).flatMap kW
 | [],_,h=>by simp at h
 |x::l,0,_=>by simp[bD,kW]
 |x::l,i+1,h=>by
  have:=zkp a l i (by simpa using h);rw[List.set_cons_succ,ug,ug,List.getElem_cons_succ,<-this];unfold bD;have e:(i+1)*5+3=(kW x).length+(i*5+3):=by rw[qig];omega
  rw[e,mf,qw,qw];congr 1;rw[qw];congr 2;rw[uk,mg]
theorem nU.comp{α:Type}{f:α->List AV}{v v':AV}{l l':List α}(h:nU z f S H0 H v l)(h':nU z f (In v) H H' v' l'):nU z f S H0 H' v' l':=
 ⟨h'.gl,h.fm.then h'.fm fun c hc hi=>by
  rcases h.nw c hi with h1|h1
  ·exact h1
  ·omega,fun b hb=>by
  rcases h'.nw b hb with h1|h1
  ·exact h.nw b h1
  ·exact .inr (tq h.fm.nx h1)⟩
def znm(C:Nat->Ev.Call)(r:Ru)(k:Nat):Prop:=
 ∀(v:AV) (neg:Bool) (H:Hp) {l:List (Nd×AV)} {cs:List AV} {P:Nat->Prop},Gl 5 H v l.length (l.flatMap kW)->jN P H r cs->(∀b,P b->¬ In v b)->l.length+r.size<=1000000 ->
  Ok (C k (.f 81) [v,.agg cs,.bool neg] H) fun w H'=>∃ l',nU 5 kW (In v) H H' w l'/\l'.map Prod.fst=l.map Prod.fst++r.nodes neg
theorem q4t{l:List (Nd×AV)}(h:i<l.length)(x:AV):(l.set i (l[i].1,x)).map Prod.fst=l.map Prod.fst:=by
 refine List.ext_getElem (by simp) fun j h1 h2=>?_;simp only[cu,lE3];split
 ·subst_vars;rfl
 ·rfl
theorem qze{w:AV}{l:List (Nd×AV)}(h:nU 5 kW S H0 H w l)(hi:i<l.length){x:AV}(hx:x=.aA\/∃ b o n m e,x=.sl b o n m e):Ok (qur O w (iN i) x H) fun r H'=>∃ l',nU 5 kW S H0 H' r l'/\l'.map Prod.fst=l.map Prod.fst:=by
 obtain⟨b,o,H',e1,e2,g,f,nx⟩:=h.gl.set1 hi (j:=3) (by omega) x;unfold qur;rw[zkp x l i hi]at g;refine Ok.mono (Q:=fun r H2=>r=w/\H2=H') ?_ ?_
 ·rcases hx with rfl|⟨_,_,_,_,_,rfl⟩<;>(simp only[go_sem,e1,e2];exact Ok.ret ⟨rfl,rfl⟩)
 ·rintro _ _ ⟨rfl,rfl⟩;exact⟨_,⟨by rw[xk];exact g,h.fm.then f fun c hc hi=>by
   rcases h.nw c hi with h1|h1
   ·exact h1
   ·omega,h.nw⟩,q4t hi x⟩
theorem qsq{r:Ru}(hR:znm C r j){g:AV->AV->pD}{Q:pL}{w x:AV}{l:List (Nd×AV)}{xs ca cb cc:List AV}{a0 bl kd t:Nat}{P:Nat->Prop}(hw:Gl 5 H w l.length (l.flatMap kW))(hx:Gl 1 H x t xs)(ht:t<2)(hll:l.length+r.size<=1000000)(ha:a0<H.nx)(hb:bl<H.nx)(ka:H.get a0=aB 0 [.int .u8 (.ofNat kd),sE.v,sE.v,.sl bl 0 2 2 true])(kb:H.get bl=aB 0 (ca++cb))(hrd:eB (aB 0 (ca++cb)) (t*4) 4=some cc)(hrc:jN P H r cc)(d1:∀ b,In x b->¬ In w b)(hda:¬ In w a0/\¬ In x a0)(hdb:¬ In w bl/\¬ In x bl)(dPw:∀ b,P b->¬ In w b)(dPx:∀ b,P b->¬ In x b)(hg:∀(w' x':AV) (H':Hp) (l':List (Nd×AV)) (xs':List AV),Gl 5 H' w' l'.length (l'.flatMap kW)->(∀b,In w' b->In w b\/H.nx<=b)->l'.map Prod.fst=l.map Prod.fst++r.nodes (neg||(decide (kd=6)&&decide (t=1))) -> Fm (fun b=>In w b\/In x b) H H'->Gl 1 H' x' (t+1) xs'->(∀b,In x' b->H.nx<=b/\¬ In w' b)->Ok (g w' x' (iN ((t+1))) H') Q):Ok (q3k (C j) g w (.bool neg) (.ptr a0 0) x (iN t) H) Q:=by
 unfold q3k;have hl:=hw.cO;simp(disch:=go_size)only[go_sem,rB,rI,rK,rL,rN,rS,r6,hl];have fp:Fm No H (aO H (aB 0 [iN (l.length)])):=by exact jY
 obtain⟨H2,e2,g2,q2,f2,n2⟩:=(hx.no fp).append (k:=1) (w:=8) (x:=[iN (l.length)]) (by omega) rfl (by omega) (by omega);simp only[np]at n2;refine Ok.veE e2 ?_;have fA:Fm (In x) H H2:=(fp.mono (T:=In x) (fun _ _ h=>absurd h id)).then f2 fun _ _ h=>h;have kp:∀ b,b<H.nx->¬ In x b->H2.get b=H.get b:=fun b hb hx'=>fA.get b hb hx';have ka2:H2.get a0=aB 0 [.int .u8 (.ofNat kd),sE.v,sE.v,.sl bl 0 2 2 true]:=(kp a0 ha hda.2).trans ka;have kb2:H2.get bl=aB 0 (ca++cb):=(kp bl hb hdb.2).trans kb;have r2:eB (H2.get bl) (t*4) 4=some cc:=by rw[kb2];exact hrd
 have hcf:=hrc.four;obtain⟨c0,c1,c2,c3,hcc⟩:=hcf;subst hcc;have hwk:Gl 5 H2 w l.length (l.flatMap kW):=hw.keep fA.nx (fun b hb hl=>kp b hl (fun hx'=>d1 b hx' hb));have fin:∀(b:Bool),b=(neg||(decide (kd=6)&&decide (t=1)))->∀(w3:AV) (H3:Hp) (l3:List (Nd×AV)),nU 5 kW (In w) H2 H3 w3 l3->l3.map Prod.fst=l.map Prod.fst++r.nodes b ->
   Ok (g w3 (.sl (aO H (aB 0 [iN (l.length)])).nx 0 (t+1) (t+1) false) (iN ((t+1))) H3) Q:=by
  rintro _ rfl w3 H3 l3 hw3 hl3;refine hg w3 _ H3 l3 _ hw3.gl (fun b hb=>?_) hl3 ?_ (g2.keep hw3.fm.nx fun b hb hlt=>hw3.fm.get b hlt fun h=>?_) (fun b hb=>⟨?_,fun h=>?_⟩)
  ·rcases hw3.nw b hb with h|h
   ·exact .inl h
   ·omega
  ·exact(fA.mono fun _ _ h=>.inr h).then hw3.fm fun _ _ h=>.inl h
  ·obtain⟨_,_,_,_,hb⟩:=hb;cases hb;have:=hw.lt h;simp only[np]at this;omega
  ·obtain⟨_,_,_,_,hb⟩:=hb;cases hb;simp only[np];omega
  ·obtain⟨_,_,_,_,hb⟩:=hb;cases hb;simp only[np]at h;rcases hw3.nw _ h with h|h
   ·have:=hw.lt h;omega
   ·omega
 have O:∀ b:Bool,Ok (C j (.f 81) [w,.agg [c0,c1,c2,c3],.bool b] H2) fun w' H'=>∃ l',nU 5 kW (In w) H2 H' w' l'/\l'.map Prod.fst=l.map Prod.fst++r.nodes b:=fun b=>hR w b H2 hwk (hrc.iH fA dPx) dPw hll;have aHx:pN 64 (.agg [c0,c1,c2,c3]) (.agg [c0,c1,c2,c3])=true:=by have hfl:=hrc.flat;refine qk1 _ ?_;rw[hfl];rfl
 cases neg
 ·by_cases h6:kd=6
  ·subst h6;simp(disch:=omega)only[go_sem,ka2,r2];refine Ok.mI (O (decide (t=1))) ?_;rintro w3 H3 ⟨l3,hw3,hl3⟩;have f3:=hw3.fm;have ka3:H3.get a0=aB 0 [.int .u8 (.ofNat 6),.str 0 0,.str 0 0,.sl bl 0 2 2 true]:=(f3.get a0 (by omega) hda.1).trans ka2;have r3:eB (H3.get bl) (t*4) 4=some [c0,c1,c2,c3]:=by rw[f3.get bl (by omega) hdb.1];exact r2
   have ec:=aHx;unfold quq;simp(disch:=omega)only[go_sem];exact fin (decide (t=1)) (by simp) w3 H3 l3 hw3 hl3
  ·simp(disch:=omega)only[go_sem,ka2,r2,h6];refine Ok.mI (O false) ?_;rintro w3 H3 ⟨l3,hw3,hl3⟩;have f3:=hw3.fm;have ka3:H3.get a0=aB 0 [.int .u8 (.ofNat kd),.str 0 0,.str 0 0,.sl bl 0 2 2 true]:=(f3.get a0 (by omega) hda.1).trans ka2;have r3:eB (H3.get bl) (t*4) 4=some [c0,c1,c2,c3]:=by rw[f3.get bl (by omega) hdb.1];exact r2
   have ec:=aHx;unfold quq;simp(disch:=omega)only[go_sem];exact fin false (by simp[h6]) w3 H3 l3 hw3 hl3
 ·simp(disch:=omega)only[go_sem,ka2,r2];refine Ok.mI (O true) ?_;rintro w3 H3 ⟨l3,hw3,hl3⟩;have f3:=hw3.fm;have ka3:H3.get a0=aB 0 [.int .u8 (.ofNat kd),.str 0 0,.str 0 0,.sl bl 0 2 2 true]:=(f3.get a0 (by omega) hda.1).trans ka2;have r3:eB (H3.get bl) (t*4) 4=some [c0,c1,c2,c3]:=by rw[f3.get bl (by omega) hdb.1];exact r2
  have ec:=aHx;unfold quq;simp(disch:=omega)only[go_sem];exact fin true (by simp) w3 H3 l3 hw3 hl3
theorem nU.base{α:Type}{f:α->List AV}{v:AV}{l:List α}(a:Fm No H0 H1)(h:nU z f S H1 H v l):nU z f S H0 H v l:=
 ⟨h.gl,(a.mono fun _ _ h=>absurd h id).then h.fm fun _ _ h=>h,fun b hb=>(h.nw b hb).imp id fun h=>tq a.nx h⟩
theorem Gl.aCu{α:Type}{f:α->List AV}{v:AV}{l:List α}(h:Gl z H v l.length (l.flatMap f))(a:Fm No H H1):nU z f (In v) H1 H1 v l:=⟨h.no a,Fm.refl _ _,fun _ h=>.inl h⟩
theorem n15(O:Ev.Call)(q:AV->pD)(x2 x4:AV)(n:Nat):qup O q x2 x4 (n+1)=qkc O q x2 x4 (qup O q x2 x4 n):=rfl
theorem zsq(hC:aW C):∀(r:Ru) (k:Nat),r.depth<=k->znm C r k:=by
 intro r
 induction r with
 |leaf kd rl to=>
  intro k hk v neg H l cs P hv hr hP hll;unfold Ru.depth at hk;obtain⟨j,rfl⟩:∃ j,k=j+1:=⟨k-1,by omega⟩;rw[(hC j).zAz];unfold zAz zqy;obtain rfl:cs=lfC kd rl to:=hr;have hl:=hv.cO;unfold lfC SS.v;simp(disch:=go_size)only[go_sem,seval,hl];have fX:Fm No H (aO (aO H (aB 0 [.int .u8 (.ofNat kd),.str rl.n rl.a,.str to.n to.a,.aA])) (aB 0 (kW (⟨kd,rl,to,neg⟩,.aA)))):=by exact pU
  refine Ok.ve ((hv.aCu fX).add (⟨kd,rl,to,neg⟩,.aA) 72 rfl (by omega) (by omega)) ?_;intro w H1 hw;have k1:H1.get H.nx=aB 0 [.int .u8 (.ofNat kd),.str rl.n rl.a,.str to.n to.a,.aA]:=(hw.fm.get _ (by(first|go_size|omega)) fun h=>by have:=hv.lt h;omega).trans (by simp(disch:=first|go_size|omega)only[go_sem,seval]);unfold q3l;obtain⟨m,hm⟩:∃ m,bX=m+1:=⟨999999,by rw[dI]⟩;rw[dB,hm];rw[n15];unfold qkc;simp only[go_sem,k1];refine(qze (O:=C j) hw (by simp) (.inl rfl)).mono ?_;rintro r H2 ⟨l',h1,h2⟩;exact⟨l',h1.base fX,by rw[h2];simp[Ru.nodes]⟩
 |node kd a b iha ihb=>
  intro k hk v neg H l cs P hv hr hP hll;unfold Ru.depth at hk;obtain⟨j,rfl⟩:∃ j,k=j+1:=⟨k-1,by omega⟩;rw[(hC j).zAz];unfold zAz zqy;obtain⟨bl,ca,cb,rfl,hbl,hPb,kb,hca,hcb⟩:=hr;have hl:=hv.cO;unfold sE SS.v;simp(disch:=go_size)only[go_sem,rB,rI,rK,rL,rN,rS,r6,hl];have fX:Fm No H (aO (aO H (aB 0 [.int .u8 (.ofNat kd),.str 0 0,.str 0 0,.sl bl 0 2 2 true])) (aB 0 (kW (⟨kd,sE,sE,neg⟩,.aA)))):=by exact pU
  unfold Ru.size at hll;refine Ok.ve ((hv.aCu fX).add (⟨kd,sE,sE,neg⟩,.aA) 72 rfl (by omega) (by omega)) ?_;intro w H1 hw;have f1:=hw.fm;have n1:=f1.nx;simp only[np]at n1;have k1:H1.get H.nx=aB 0 [.int .u8 (.ofNat kd),.str 0 0,.str 0 0,.sl bl 0 2 2 true]:=(hw.fm.get _ (by(first|go_size|omega)) fun h=>by have:=hv.lt h;omega).trans (by simp(disch:=first|go_size|omega)only[go_sem,rB,rI,rK,rL,rN,rS,r6]);have fH:Fm (In v) H H1:=(fX.mono fun _ _ h=>absurd h id).then f1 fun _ _ h=>h;have kb1:H1.get bl=aB 0 (ca++cb):=(fH.get bl hbl (hP bl hPb)).trans kb;have aTK:jN (fun x=>P x/\x<H.nx) H1 a ca:=(hca.mono fun b h1 h2=>(⟨h2,h1⟩:P b/\b<H.nx)).iH fH fun b h=>hP b h.1;have bDu:jN (fun x=>P x/\x<H.nx) H1 b cb:=(hcb.mono fun b h1 h2=>(⟨h2,h1⟩:P b/\b<H.nx)).iH fH fun b h=>hP b h.1;have dw:∀ x,In w x->In v x\/H.nx+2<=x:=fun x h=>by
   rcases hw.nw x h with h|h
   ·exact .inl h
   ·exact .inr (by simp only[np]at h;omega)
  have la:ca.length=4:=by obtain⟨_,_,_,_,h⟩:=hca.four;rw[h];rfl
  have lb:cb.length=4:=by obtain⟨_,_,_,_,h⟩:=hcb.four;rw[h];rfl
  have nn:∀ x,¬In AV.aA x:=fun x h=>by obtain⟨_,_,_,_,h⟩:=h;cases h
  have no:∀ x,x<H.nx+2->¬ In v x->¬ In w x:=fun x h1 h2 h=>(dw x h).elim h2 fun h=>by omega
  unfold q3l;obtain⟨m,hm⟩:∃ m,bX=m+3:=⟨999997,by rw[dI]⟩;rw[dB,hm];rw[n15];unfold qkc;simp(disch:=go_size)only[go_sem,rB,rI,rK,rL,rN,rS,r6,k1];refine qsq (r:=a) (P:=fun x=>P x/\x<H.nx) (ca:=ca) (cb:=cb) (cc:=ca) (kd:=kd) (bl:=bl) (iha j (by omega)) hw.gl (Gl.nil 1 H1) (by omega) (by simp;omega) (by omega) (by omega) k1 kb1 (by rw[lAL,qca,pz (by simp;omega),oq,List.take_left' la]) aTK (fun x h=>absurd h (nn x))
   ⟨no _ (by omega) (fun h=>by have:=hv.lt h;omega),nn _⟩ ⟨no _ (by omega) (hP bl hPb),nn _⟩ (fun x hx=>no _ (by omega) (hP x hx.1)) (fun x _=>nn x) ?_
  intro w2 x2 H2 l2 xs2 hw2 nw2 hl2 f2 hx2 nx2;rw[n15];unfold qkc;have no2:∀ x,x<H1.nx->¬ In w x->¬ In w2 x:=fun x h1 h2 h=>(nw2 x h).elim h2 fun h=>by omega
  have na0:¬ In w H.nx:=no _ (by omega) (fun h=>by have:=hv.lt h;omega);have nbl:¬ In w bl:=no _ (by omega) (hP bl hPb);have fw:∀ x,x<H1.nx->¬ In w x->H2.get x=H1.get x:=fun x h1 h2=>f2.get x h1 fun h=>h.elim h2 (nn x);have n2:=f2.nx;have k2:=(fw _ (by omega) na0).trans k1;have kb2:=(fw _ (by omega) nbl).trans kb1;simp only[go_sem,k2];have aDX:jN (fun x=>P x/\x<H.nx) H2 b cb:=bDu.iH f2 fun b h=>fun h'=>h'.elim (no _ (by omega) (hP b h.1)) (nn b);have l2n:l2.length=l.length+1+a.size:=by have:=congrArg List.length hl2;simp only[qc,lq,pg,uo,qce]at this;omega
  refine qsq (r:=b) (P:=fun x=>P x/\x<H.nx) (ca:=ca) (cb:=cb) (cc:=cb) (kd:=kd) (bl:=bl) (t:=1) (ihb j (by omega)) hw2 hx2 (by omega) (by omega) (by omega) (by omega) k2 kb2 (by rw[au,qca,pz (by simp;omega),List.drop_left' la,<-lb,uj]) aDX (fun x h=>(nx2 x h).2)
   ⟨no2 _ (by omega) na0,fun h=>by have:=(nx2 _ h).1;omega⟩ ⟨no2 _ (by omega) nbl,fun h=>by have:=(nx2 _ h).1;omega⟩ (fun x hx=>no2 _ (by omega) (no _ (by omega) (hP x hx.1))) (fun x hx h=>by have:=(nx2 _ h).1;omega) ?_
  intro w3 x3 H3 l3 xs3 hw3 nw3 hl3 f3 hx3 nx3;rw[n15];unfold qkc;have k3:H3.get H.nx=aB 0 [.int .u8 (.ofNat kd),.str 0 0,.str 0 0,.sl bl 0 2 2 true]:=(f3.get _ (by omega) fun h=>h.elim (no2 _ (by omega) na0) fun h=>by have:=(nx2 _ h).1;omega).trans k2;simp only[go_sem,k3];have l3n:l3.length=l2.length+b.size:=by have:=congrArg List.length hl3;simp only[qc,lq,qce]at this;omega
  have hS:nU 5 kW (In v) H H3 w3 l3:=by
   refine⟨hw3,?_,?_⟩
   ·refine(fH.then f2 fun c hc h=>?_).then f3 fun c hc h=>?_
    ·rcases h with h|h
     ·exact(dw c h).elim id fun h=>by omega
     ·simp_all
    ·rcases h with h|h
     ·exact(nw2 c h).elim (fun h=>(dw c h).elim id fun h=>by omega) fun h=>by omega
     ·have:=(nx2 c h).1;omega
   ·intro x hx;rcases nw3 x hx with h|h
    ·rcases nw2 x h with h|h
     ·rcases dw x h with h|h
      ·exact .inl h
      ·omega
     ·omega
    ·omega
  refine(qze (O:=C j) hS (i:=l.length) (by omega) ?_).mono ?_
  ·rcases hx3.is with⟨h,_⟩|⟨_,_,_,_,_,h,_⟩
   ·exact .inl h
   ·simp_all
  ·rintro r H4 ⟨l',h1,h2⟩;refine⟨l',h1,?_⟩;rw[h2,hl3,hl2];simp[Ru.nodes]
def gU(kd:Nat)(s:SS)(n:Nd):Bool:=decide (n.k=kd)&&decide (n.rl=s)
def fM(r:Ru)(kd:Nat)(s:SS):Bool:=(r.nodes false).any (gU kd s)
theorem qwv{O:Ev.Call}{l:List (Nd×AV)}{v:AV}{H:Hp}{kd:Nat}{s:SS}(hv:Rs 5 kW H v l)(hb:l.length<=1000000){Q:pL}{q:pH}{qr:pD}(hr:l.any (fun x=>gU kd s x.1)=true->Ok (qr (.bool true) H) Q)(hq:l.any (fun x=>gU kd s x.1)=false->Ok (q H) Q):∀(k i:Nat),i<=l.length->l.length-i<k->(l.take i).any (fun x=>gU kd s x.1)=false -> Ok (q7c O qr q (.int .u8 (.ofNat kd)) s.v v k (iN i) H) Q
 |0,i,_,h,_=>by omega
 |k+1,i,hi,hk,hn=>by
  show Ok (zhp O _ _ _ _ _ (q7c O _ _ _ _ _ k) _ H) Q;unfold zhp;have hl:=hv.len;by_cases hlt:i<l.length
  ·simp only[go_sem,hl,hlt];unfold zho;obtain⟨b,o,e1,e2,_,e3,e4⟩:=hv.at' i hlt;have r0:dK (H.get b) o=.val (.int .u8 (.ofNat l[i].1.k)):=e4 0 (by rw[qig];omega);have r1:dK (H.get b) (o+1)=.val (.str l[i].1.rl.n l[i].1.rl.a):=e4 1 (by rw[qig];omega);have hs:(l.take (i+1)).any (fun x=>gU kd s x.1)=gU kd s l[i].1:=by
    rw[ku hlt,lAA,hn];simp
   unfold SS.v;by_cases h1:l[i].1.k=kd
   ·have h1t:=dh h1;by_cases h2:l[i].1.rl.n=s.n/\l[i].1.rl.a=s.a
    ·have h2t:=dh h2;have hh:gU kd s l[i].1=true:=by unfold gU;rw[gp h1,gp ((sJ _ _).2 h2)];rfl
     simp only[go_sem,e1,r0,r1,h1t,h2t];refine hr ?_;rw[ag];exact⟨l[i],lu hlt,hh⟩
    ·have hh:gU kd s l[i].1=false:=by unfold gU;rw[qi (fun h=>h2 ((sJ _ _).1 h))];simp
     simp only[go_sem,e1,r0,r1,h1t,h2];unfold zhm;simp(disch:=go_size)only[go_sem,rB,rI,rK,rL,rN,rS,r6];exact qwv hv hb hr hq k (i+1) (by omega) (by omega) (by rw[hs,hh])
   ·have hh:gU kd s l[i].1=false:=by unfold gU;rw[qi h1];simp
    simp only[go_sem,e1,r0,r1,h1];unfold zhm;simp(disch:=go_size)only[go_sem,rB,rI,rK,rL,rN,rS,r6];exact qwv hv hb hr hq k (i+1) (by omega) (by omega) (by rw[hs,hh])
  ·have he:i=l.length:=by omega
   simp only[go_sem,hl,hlt];rw[he,uj]at hn;exact hq hn
theorem zwy(hC:aW C){r:Ru}(hk:r.depth+1<=k)(hs:r.size<=100000){P:Nat->Prop}(hr:jN P H r cs)(kd:Nat)(s:SS):Ok (C k (.f 52) [.agg cs,.int .u8 (.ofNat kd),s.v] H) fun v H'=>v=.bool (fM r kd s)/\Fm No H H':=by
 obtain⟨j,rfl⟩:∃ j,k=j+1:=⟨k-1,by omega⟩;rw[(hC j).zAs];unfold zAs zz4;obtain⟨c0,c1,c2,c3,rfl⟩:=hr.four;simp(disch:=omega)only[go_sem,seval];have fX:Fm No H (aO H (aB 0 [c0,c1,c2,c3])):=by exact jY
 have nn:∀ x,¬In AV.aA x:=fun x h=>by obtain⟨_,_,_,_,h⟩:=h;cases h
 refine Ok.ve (zsq hC r j (by omega) .aA false _ (l:=[]) (Gl.nil 5 _) (hr.fm fX) (fun b _=>nn b) (by simp;omega)) ?_;rintro w H1 ⟨l,hw,hl⟩;have f1:Fm No H H1:=fX.then hw.fm fun c _ h=>absurd h (nn c);have hln:l.length=r.size:=by have:=congrArg List.length hl;simpa [qce] using this
 have hany:fM r kd s=l.any (fun x=>gU kd s x.1):=by
  have hl':l.map Prod.fst=r.nodes false:=by simpa using hl
  unfold fM;rw[<-hl',lAZ];rfl
 unfold zwb;rw[dB];refine qwv (hw.gl.rs qig) (by omega) (fun h=>?_) (fun h=>?_) bX 0 (gq _) (by rw[dI];omega) rfl
 ·exact Ok.ret ⟨by rw[hany,h],f1⟩
 ·unfold zhn;exact Ok.ret ⟨by rw[hany,h],f1⟩
structure jD where
 name:SS
 types:List iQ
 rule:Ru
structure xM where
 name:SS
 bG:List jD
structure aR where
 r:jD
 tv:AV
 cs:List AV
def fI(g:aR):List AV:=[g.r.name.v,g.tv,g.cs.getD 0 .undef,g.cs.getD 1 .undef,g.cs.getD 2 .undef,g.cs.getD 3 .undef]
theorem qdm(g:aR):(fI g).length=6:=rfl
structure rW(A B:Nat)(H:Hp)(rv:AV)(gs:List aR):Prop where
 gl:Gl 6 H rv gs.length (gs.flatMap fI)
 xC:∀ b,In rv b->A<=b/\b<B
 ty:∀ g∈gs,Rs 2 tC H g.tv g.r.types/\(g.tv=.aA\/∃ b o n m e,g.tv=.sl b o n m e/\n<=m/\0<n)/\∀ b,In g.tv b->A<=b/\b<B/\¬ In rv b
 ru:∀ g∈gs,jN (fun b=>A<=b/\b<B/\¬ In rv b) H g.r.rule g.cs
theorem rW.nil(A B:Nat)(H:Hp):rW A B H .aA []:=⟨Gl.nil 6 H,(fun b h=>by obtain⟨_,_,_,_,h⟩:=h;cases h),(fun g hg=>by cases hg),(fun g hg=>by cases hg)⟩
theorem rW.iH{A B:Nat}{rv:AV}{gs:List aR}(h:rW A B H rv gs)(f:Fm S H H')(hs:∀ b,A<=b->b<B->¬ S b):rW A B H' rv gs:=
 ⟨h.gl.fm f fun b hb=>hs b (h.xC b hb).1 (h.xC b hb).2,h.xC,fun g hg=>⟨(h.ty g hg).1.iH f fun b hb=>hs b ((h.ty g hg).2.2 b hb).1 ((h.ty g hg).2.2 b hb).2.1,(h.ty g hg).2⟩,
  fun g hg=>(h.ru g hg).iH f fun b hb=>hs b hb.1 hb.2.1⟩
theorem rW.up{A B B':Nat}{rv:AV}{gs:List aR}(h:rW A B H rv gs)(hb:B<=B'):rW A B' H rv gs:=
 ⟨h.gl,fun b x=>⟨(h.xC b x).1,lL (h.xC b x).2 hb⟩,fun g hg=>⟨(h.ty g hg).1,(h.ty g hg).2.1,fun b x=>by have:=(h.ty g hg).2.2 b x;exact⟨this.1,by omega,this.2.2⟩⟩,
  fun g hg=>(h.ru g hg).mono fun b _ x=>⟨x.1,by omega,x.2.2⟩⟩
structure aN where
 name:SS
 gs:List aR
 rv:AV
 A:Nat
 B:Nat
def pX(g:aN):List AV:=[g.name.v,g.rv]
theorem qco(g:aN):(pX g).length=2:=rfl
def aN.sp(g:aN):xM:=⟨g.name,g.gs.map aR.r⟩
variable {g:aN}
structure lS(H:Hp)(sv:AV)(l:List aN):Prop where
 gl:Gl 2 H sv l.length (l.flatMap pX)
 ord:l.Pairwise fun a b=>a.B<=b.A
 rel:∀ g∈l,rW g.A g.B H g.rv g.gs/\g.B<=H.nx
 dj:∀ g∈l,∀b,In sv b->¬(g.A<=b/\b<g.B)
theorem lS.no{l:List aN}(h:lS H sv l)(f:Fm No H H'):lS H' sv l:=
 ⟨h.gl.no f,h.ord,fun g hg=>⟨(h.rel g hg).1.iH f fun _ _ _ h=>h,tq (h.rel g hg).2 f.nx⟩,h.dj⟩
theorem lS.iH{l:List aN}(h:lS H sv l)(f:Fm S H H')(hs:∀ b,In sv b->¬ S b)(hg:∀ g∈l,∀b,g.A<=b->b<g.B->¬ S b):lS H' sv l:=
 ⟨h.gl.fm f hs,h.ord,fun g hgl=>⟨(h.rel g hgl).1.iH f (hg g hgl),tq (h.rel g hgl).2 f.nx⟩,h.dj⟩
theorem lS.push{sv rE:AV}{l:List aN}(h:lS H sv l)(f:Fm S H H')(hg:∀ g∈l,∀b,g.A<=b->b<g.B->¬ S b)(name:SS)(gl:Gl 2 H' rE (l.length+1) (l.flatMap pX++[name.v,.aA]))(nw:∀ b,In rE b->H.nx<=b):lS H' rE (l++[⟨name,[],.aA,H'.nx,H'.nx⟩]):=by
 refine⟨?_,?_,?_,?_⟩
 ·rw[lq,uA,uB];exact gl
 ·rw[yh];refine⟨h.ord,zq _ _,fun a ha b hb=>?_⟩;rw[gy]at hb;subst hb;exact tq (h.rel a ha).2 f.nx
 ·intro g hgl;rw[gz,gy]at hgl;rcases hgl with hgl|rfl
  ·exact⟨(h.rel g hgl).1.iH f (hg g hgl),tq (h.rel g hgl).2 f.nx⟩
  ·exact⟨rW.nil _ _ _,lg _⟩
 ·intro g hgl b hb;rw[gz,gy]at hgl;rcases hgl with hgl|rfl
  ·have:=nw b hb;have:=(h.rel g hgl).2;omega
  ·simp
def lT(L:List (List Nat))(n:Nat):jD:=⟨gD n,kG L n,(eT L n 6 2 false).1⟩
structure OfI(L:List (List Nat))(v:AV)(H0 H:Hp)(cb sb:Nat)(sv:AV)(l:List aN)(g:aN):Prop where
 cbk:yE H cb v
 sbk:H.get sb=aB 0 [sv]
 sbl:H0.nx<=sb/\sb<g.A/\sb<H.nx
 cbl:cb<g.A
 ne:cb<sb\/sb<cb
 ns:¬ In sv sb/\¬ In sv cb
 tK:∀ b,In sv b->H0.nx<=b/\b<g.A
 sbd:∀ x∈l,¬(x.A<=sb/\sb<x.B)
 m:lS H sv (l++[g])
 an:∀ x∈l++[g],H0.nx<=x.A
 ax:g.A<=H.nx
 fm:Fm No H0 H
theorem zjd(X:List AV)(a b c:AV):bD (X++[a,b]) (X.length+1) [c]=X++[a,c]:=by unfold bD;rw[mf,uk,mg];simp
theorem zr2(hC:aW C)(hj:20<=j){L:List (List Nat)}{v:AV}(hn:n<bF L){cb sb:Nat}{l:List aN}(hv:gV H0 v L)(hI:OfI L v H0 H cb sb sv l g)(hl:l.length=1+n / 4)(hgs:g.gs.length<=12){G:pD}{Q:pL}(hG:∀(H':Hp) (rv':AV) (rg:aR),rg.r=lT L n->OfI L v H0 H' cb sb sv l ⟨g.name,g.gs++[rg],rv',g.A,H'.nx⟩->Ok (G (iN ((n+1))) H') Q):Ok (qkk (C j) G (.ptr cb 0) (.ptr sb 0) (iN n) H) Q:=by
 have hm:bF L<=12:=um _ _;have hvH:=hv.fm hI.fm;rw[qrw];unfold qvg;have e0:=hI.cbk.is;simp only[go_sem,e0];refine Ok.ve (z0w hC 6 j (by omega) 2 1 false H (by omega) (by omega) hvH ⟨hn,hm,fun h=>by cases h⟩) ?_;rintro _ H1 ⟨cs,rfl,hcs,f1⟩;obtain⟨c0,c1,c2,c3,rfl⟩:=hcs.four;have n1:=f1.nx;have hsb:=hI.sbl;have s1:=(f1.keep hsb.2.2).trans hI.sbk;have m1:=hI.m.no f1;have hix:1+n / 4<(l++[g]).length:=by simp;omega
 obtain⟨b,o,i1,i2,i3,i4,i5⟩:=(m1.gl.rs qco).at' (1+n / 4) hix;have hlast:(l++[g])[1+n / 4]=g:=by rw[List.getElem_append_right (by omega)];simp[hl]
 rw[hlast]at i4 i5;have r1:dK (H1.get b) (o+1)=.val g.rv:=i5 1 (by rw[qco];omega);have cl:=hI.cbk.lt;have aMU:cb<H1.nx:=by omega
 have k1:=(hI.cbk.fm f1).is;simp(disch:=go_size)only[go_sem,rB,rI,rK,rL,rN,rS,r6,s1,i1,r1,k1];have er:pN 64 g.rv g.rv=true:=by refine qck ?_ 63;rcases(m1.rel g (by simp)).1.gl.is with⟨h,_⟩|⟨_,_,_,_,_,h,_⟩<;>(rw[h];rfl)
 have ev:pN 64 (.agg [v]) (.agg [v])=true:=qk1 _ (by unfold Tr;rw[lE5,hvH.flat];rfl);have ec:pN 64 (.agg [c0,c1,c2,c3]) (.agg [c0,c1,c2,c3])=true:=qk1 _ (by unfold Tr;rw[hcs.flat];rfl);have fX:Fm No H1 ⟨((aO H1 (aB 0 [.int .u8 (.ofNat 0),.str 0 0,.str 0 0,.aA])).put H1.nx (aB 0 [c0,c1,c2,c3])).t,H1.nx+1+17⟩:=by(repeat(first|exact Fm.refl _ _|assumption|refine Fm.push ?_ _|refine Fm.lF ?_ (by go_size)|refine Fm.aF ?_ _ _ (by go_size)))
 refine Ok.mI (qyt hC (k:=j) (by omega) n (by omega) _) ?_;rintro _ H3 ⟨rfl,f3⟩;have n3:H1.nx+1+17<=H3.nx:=f3.nx;have q3:H3.get H1.nx=aB 0 [c0,c1,c2,c3]:=(f3.keep (show H1.nx<H1.nx+1+17 by omega)).trans (by simp only[go_sem]);have f13:=fX.trans f3;have k3:=(f13.keep aMU).trans k1;have r3:dK (H3.get b) (o+1)=.val g.rv:=by rw[f13.keep i2];exact r1
 unfold SS.v;simp only[go_sem,seval,q3,k3,r3,er,ev,ec];refine Ok.mI (q7j hC (k:=j) (by omega) ((hvH.fm f1).fm f13) hn) ?_;intro tv H4 ht;have f4:=ht.fm;have n4:=f4.nx;have q4:=(f4.keep (show H1.nx<H3.nx by omega)).trans q3;have k4:=(f4.keep (by omega)).trans k3;have r4:dK (H4.get b) (o+1)=.val g.rv:=by rw[f4.keep (by omega)];exact r3
 have htl:0<(kG L n).length:=by unfold kG tQ;simp
 obtain⟨tb,to,te,htv⟩:∃ tb to te,tv=.sl tb to (kG L n).length (kG L n).length te:=by
  rcases ht.gl.is with⟨_,h⟩|⟨tb,to,te,_,_,h,_⟩
  ·omega
  ·exact⟨tb,to,te,h⟩
 subst htv;simp only[go_sem,seval,q4,k4,r4,er,ev,ec];have gB:g.B<=H.nx:=(hI.m.rel g (by simp)).2;have ax:=hI.ax;have fV:Fm No H1 (H4.put (H1.nx+1+12) (aB 0 [.str (gD n).n (gD n).a,.sl tb to (kG L n).length (kG L n).length te,c0,c1,c2,c3])):=(f13.trans f4).aF _ _ (by omega);have bD1:=(m1.rel g (by simp)).1.iH fV fun _ _ _ h=>h;obtain⟨H5,e5,g5,q5,f5,n5⟩:=bD1.gl.append (k:=1) (w:=104) (x:=[.str (gD n).n (gD n).a,.sl tb to (kG L n).length (kG L n).length te,c0,c1,c2,c3]) (by omega) rfl (by omega) (by omega);simp only[nq]at e5 g5 q5 n5;refine Ok.deE e5 ?_;have rin:∀ x,In g.rv x->g.A<=x/\x<g.B:=fun x hx=>(m1.rel g (by simp)).1.xC x hx;have tK:=hI.tK;have f15:Fm (In g.rv) H1 H5:=(fV.mono fun _ _ h=>absurd h id).then f5 fun _ _ h=>h;have gl5:Gl 2 H5 sv (l++[g]).length ((l++[g]).flatMap pX):=m1.gl.fm f15 fun x hx h=>by have:=(tK x hx).2;have:=(rin x h).1;omega
 obtain⟨b',o',H6,i6,e6,g6,f6,n6⟩:=gl5.set1 hix (j:=1) (by omega) (.sl H4.nx 0 (g.gs.length+1) (g.gs.length+1) false);rw[i1]at i6;injection i6 with i6;injection i6 with i6 i7;subst i6 i7;simp only[go_sem,seval,e6];rw[qry];unfold qvh;simp(disch:=omega)only[go_sem];have f16:Fm (fun x=>In g.rv x\/In sv x) H1 H6:=(f15.mono fun _ _ h=>.inl h).then f6 fun _ _ h=>.inr h;have n16:H1.nx<=H6.nx:=f16.nx;have hlow:∀ x,x<g.A->¬ In sv x->x<H1.nx->H6.get x=H1.get x:=fun x h1 h2 h3=>f16.get x h3 fun h=>h.elim (fun h=>by have:=(rin x h).1;omega) h2;refine hG H6 (.sl H4.nx 0 (g.gs.length+1) (g.gs.length+1) false) ⟨lT L n,.sl tb to (kG L n).length (kG L n).length te,[c0,c1,c2,c3]⟩ rfl ⟨⟨by omega,(hlow cb hI.cbl hI.ns.2 aMU).trans k1⟩,(hlow sb hsb.2.1 hI.ns.1 (by omega)).trans s1,⟨hsb.1,hsb.2.1,by omega⟩,hI.cbl,hI.ne,hI.ns,hI.tK,hI.sbd,?_,?_,by show g.A<=H6.nx;omega,?_⟩
 ·have qA:∀ x,In (.sl H4.nx 0 (g.gs.length+1) (g.gs.length+1) false) x->x=H4.nx:=fun x hx=>by
   obtain⟨_,_,_,_,hx⟩:=hx;cases hx;rfl
  refine⟨?_,?_,?_,?_⟩
  ·rw[lq,uA,uB]at g6 ⊢;rw[show(1+n / 4)*2+1=(l.flatMap pX).length+1 by
    have:∀ q:List aN,(q.flatMap pX).length=q.length*2:=fun q=>by
     induction q with
     |nil=>rfl
     |cons a q ih=>rw[ug,lq,ih,qco,pg];omega
    rw[this,hl]]at g6
   unfold pX at g6 ⊢;rw[zjd]at g6;exact g6
  ·have ho:=m1.ord;rw[yh]at ho ⊢;refine⟨ho.1,zq _ _,fun a ha c hc=>?_⟩;rw[gy]at hc;subst hc;exact ho.2.2 a ha g (by simp)
  ·intro x hx;rw[gz,gy]at hx;rcases hx with hx|rfl
   ·have ho:=m1.ord;rw[yh]at ho;have hxg:=ho.2.2 x hx g (by simp);refine⟨(m1.rel x (by simp[hx])).1.iH f16 fun c h1 h2 h=>?_,tq (m1.rel x (by simp[hx])).2 n16⟩;rcases h with h|h
    ·have:=(rin c h).1;omega
    ·exact m1.dj x (by simp[hx]) c h ⟨h1,h2⟩
   ·have hr:=(m1.rel g (by simp)).1;refine⟨⟨?_,?_,?_,?_⟩,lg _⟩
    ·show Gl 6 H6 _ (g.gs++[_]).length ((g.gs++[_]).flatMap fI);rw[lq,uA,uB];exact g5.fm f6 fun c hc h=>by have:=qA c hc;have:=(tK c h).2;omega
    ·intro c hc;have:=qA c hc;show g.A<=c/\c<H6.nx;omega
    ·intro y hy;show _/\_/\∀ c,In y.tv c->g.A<=c/\c<H6.nx/\_;rw[gz,gy]at hy;rcases hy with hy|rfl
     ·obtain⟨h1,h2,h3⟩:=hr.ty y hy;refine⟨h1.iH f16 fun c hc h=>?_,h2,fun c hc=>⟨(h3 c hc).1,by have:=(h3 c hc).2.1;omega,fun h=>by have:=qA c h;have:=(h3 c hc).2.1;omega⟩⟩;rcases h with h|h
      ·exact(h3 c hc).2.2 h
      ·have:=(tK c h).2;have:=(h3 c hc).1;omega
     ·have tin:∀ c,In (.sl tb to (kG L n).length (kG L n).length te) c->H3.nx<=c/\c<H4.nx:=fun c hc=>⟨ht.nw c hc,ht.gl.lt hc⟩;refine⟨?_,.inr ⟨_,_,_,_,_,rfl,lg _,zaf L n⟩,fun c hc=>⟨by have:=(tin c hc).1;omega,by have:=(tin c hc).2;omega,fun h=>by have:=qA c h;have:=(tin c hc).2;omega⟩⟩;have bDO:Fm (fun x=>x=H1.nx+1+12) H4 (H4.put (H1.nx+1+12) (aB 0 [.str (gD n).n (gD n).a,.sl tb to (kG L n).length (kG L n).length te,c0,c1,c2,c3])):=(Fm.refl _ _).put _ _ fun _=>rfl;refine(((ht.rs qgg).iH bDO fun c hc h=>?_).iH f5 fun c hc h=>?_).iH f6 fun c hc h=>?_
      ·have:=(tin c hc).1;omega
      ·have:=(tin c hc).1;have:=(rin c h).2;omega
      ·have:=(tin c hc).1;have:=(tK c h).2;omega
    ·intro y hy;show jN (fun c=>g.A<=c/\c<H6.nx/\_) H6 _ _;rw[gz,gy]at hy;rcases hy with hy|rfl
     ·refine((hr.ru y hy).iH f16 fun c hc h=>?_).mono fun c _ hc=>⟨hc.1,by omega,fun h=>by have:=qA c h;omega⟩;rcases h with h|h
      ·exact hc.2.2 h
      ·have:=(tK c h).2;omega
     ·have h1:jN (fun c=>H.nx<=c/\c<H1.nx) H1 (eT L n 6 2 false).1 [c0,c1,c2,c3]:=hcs.mono fun c h1 h2=>⟨h2,h1⟩;refine(h1.iH f16 fun c hc h=>?_).mono fun c _ hc=>⟨by omega,by omega,fun h=>by have:=qA c h;omega⟩;rcases h with h|h
      ·have:=(rin c h).2;omega
      ·have:=(tK c h).2;omega
  ·intro x hx c hc;rw[gz,gy]at hx;rcases hx with hx|rfl
   ·exact m1.dj x (by simp[hx]) c hc
   ·have:=(tK c hc).2;show ¬(g.A<=c/\_);omega
 ·intro x hx;rw[gz,gy]at hx;rcases hx with hx|rfl
  ·exact hI.an x (by simp[hx])
  ·exact hI.an g (by simp)
 ·refine(hI.fm.trans f1).then f16 fun c hc h=>?_;rcases h with h|h
  ·have:=(rin c h).1;have:=hI.an g (by simp);omega
  ·have:=(tK c h).1;omega
theorem zj5(hC:aW C)(hj:20<=j){L:List (List Nat)}{v:AV}(hn:n<bF L)(h4:n%4=0){cb sb:Nat}{l:List aN}(hI:OfI L v H0 H cb sb sv l g)(hl:l.length<=1000){G:pD}{Q:pL}(hG:∀(H':Hp) (rE:AV) (A:Nat),OfI L v H0 H' cb sb rE (l++[g]) ⟨bZ (n / 4),[],.aA,A,A⟩->Ok (qkk (C j) G (.ptr cb 0) (.ptr sb 0) (iN n) H') Q):Ok (qvo (C j) G (.ptr cb 0) (.ptr sb 0) (iN n) H) Q:=by
 have hm:bF L<=12:=um _ _;rw[qh7];unfold qi7;have hsb:=hI.sbl;have s0:=hI.sbk;have m0:=hI.m;have es:pN 64 sv sv=true:=by refine qck ?_ 63;rcases m0.gl.is with⟨h,_⟩|⟨_,_,_,_,_,h,_⟩<;>(rw[h];rfl)
 simp(disch:=go_size)only[go_sem,rB,rI,rK,rL,rN,rS,r6,s0,h4];have fX:Fm No H ⟨H.t,H.nx+10⟩:=by(repeat(first|exact Fm.refl _ _|assumption|refine Fm.push ?_ _|refine Fm.lF ?_ (by go_size)|refine Fm.aF ?_ _ _ (by go_size)))
 refine Ok.mI (qme hC (k:=j) (by omega) (n / 4) (by omega) _) ?_;rintro _ H1 ⟨rfl,f1⟩;have jZ:=fX.trans f1;have n1:H.nx+10<=H1.nx:=f1.nx;have s1:=(jZ.keep hsb.2.2).trans s0;unfold SS.v;simp only[go_sem,seval,s1,es];have fV:Fm No H (H1.put (H.nx+6) (aB 0 [.str (bZ (n / 4)).n (bZ (n / 4)).a,.aA])):=jZ.aF _ _ (by omega);have mV:=m0.no fV;obtain⟨H2,e2,g2,q2,f2,n2⟩:=mV.gl.append (k:=1) (w:=40) (x:=[.str (bZ (n / 4)).n (bZ (n / 4)).a,.aA]) (by omega) rfl (by simp;omega) (by simp;omega);simp only[nq]at e2 g2 q2 n2;have sb2:H2.get sb=aB 0 [sv]:=(f2.get sb (by simp only[nq];omega) hI.ns.1).trans ((fV.keep hsb.2.2).trans s0);refine Ok.deE e2 ?_;simp only[go_sem,seval,sb2];have fS:Fm (fun x=>x=sb) H2 (H2.put sb (aB 0 [.sl H1.nx 0 ((l++[g]).length+1) ((l++[g]).length+1) false])):=(Fm.refl _ _).put _ _ fun _=>rfl;have pQ:Fm (In sv) H H2:=(fV.mono fun _ _ h=>absurd h id).then f2 fun _ _ h=>h;have fA:Fm (fun x=>In sv x\/x=sb) H (H2.put sb (aB 0 [.sl H1.nx 0 ((l++[g]).length+1) ((l++[g]).length+1) false])):=(pQ.mono fun _ _ h=>.inl h).then fS fun _ _ h=>.inr h;have qA:∀ x,In (.sl H1.nx 0 ((l++[g]).length+1) ((l++[g]).length+1) false) x->x=H1.nx:=fun x hx=>by obtain⟨_,_,_,_,hx⟩:=hx;cases hx;rfl
 have tK:=hI.tK;have cl:=hI.cbk.lt;have nsb:∀ x∈l++[g],¬(x.A<=sb/\sb<x.B):=fun x hx=>by
  rw[gz,gy]at hx;rcases hx with hx|rfl
  ·exact hI.sbd x hx
  ·omega
 refine hG _ (.sl H1.nx 0 ((l++[g]).length+1) ((l++[g]).length+1) false) H2.nx ⟨⟨?_,?_⟩,dS _ _ _,⟨hsb.1,?_,?_⟩,?_,hI.ne,⟨fun h=>?_,fun h=>?_⟩,fun x hx=>?_,nsb,?_,fun x hx=>?_,lg _,?_⟩
 ·show cb<H2.nx;omega
 ·rw[dG _ _ _ _ (by have:=hI.ne;omega)];exact(pQ.get cb cl hI.ns.2).trans hI.cbk.is
 ·show sb<H2.nx;omega
 ·show sb<H2.nx;omega
 ·show cb<H2.nx;omega
 ·have:=qA _ h;omega
 ·have:=qA _ h;omega
 ·have h0:=hI.fm.nx;have:=qA _ hx;show _/\x<H2.nx;omega
 ·refine m0.push fA (fun x hx b h1 h2 h=>?_) _ ?_ fun b hb=>by have:=qA _ hb;omega
  ·rcases h with h|rfl
   ·exact m0.dj x hx b h ⟨h1,h2⟩
   ·exact nsb x hx ⟨h1,h2⟩
  ·exact g2.fm fS fun b hb h=>by have:=qA _ hb;omega
 ·rw[gz,gy]at hx;rcases hx with hx|rfl
  ·exact hI.an x hx
  ·have h0:=hI.fm.nx;show H0.nx<=H2.nx;omega
 ·refine hI.fm.then fA fun c hc h=>?_;rcases h with h|rfl
  ·have:=(tK c h).1;omega
  ·omega
def spN(L:List (List Nat))(i n:Nat):xM:=⟨bZ i,(rg (4*i) n).map (lT L)⟩
def spF(L:List (List Nat))(i:Nat):xM:=spN L i (4*i+4)
def pre(L:List (List Nat))(q:Nat):List xM:=⟨sU,[]⟩::(List.range q).map (spF L)
theorem zsf(L:List (List Nat))(q:Nat):pre L (q+1)=pre L q++[spF L q]:=by unfold pre;rw[lA9,ui];rfl
def Mid(L:List (List Nat))(n:Nat)(l:List aN)(g:aN):Prop:=∃ q,l.map aN.sp=pre L q/\g.sp=spN L q n/\4*q<=n/\n<4*q+4
def St(L:List (List Nat))(n:Nat)(l:List aN)(g:aN):Prop:=(n=0/\l=[]/\g.sp=⟨sU,[]⟩)\/∃ q,l.map aN.sp=pre L q/\g.sp=spN L q n/\4*q<n/\n<=4*q+4
theorem Mid.len{L:List (List Nat)}{l:List aN}(h:Mid L n l g):l.length=1+n / 4/\g.gs.length<=4:=by obtain⟨q,h1,h2,h3,h4⟩:=h;have e1:=congrArg List.length h1;have e2:=congrArg (fun s=>s.bG.length) h2;simp only[qc,pre,pg,lAF,aN.sp,spN,qli]at e1 e2;omega
theorem Mid.rel{L:List (List Nat)}{l:List aN}(h:Mid L n l g){rv:AV}{A B:Nat}{r:aR}(hr:r.r=lT L n):St L (n+1) l ⟨g.name,g.gs++[r],rv,A,B⟩:=by obtain⟨q,h1,h2,h3,h4⟩:=h;refine .inr ⟨q,h1,?_,by omega,by omega⟩;unfold aN.sp spN at *;injection h2 with e1 e2;rw[qkr h3,ui,ui,e1,e2];simp[hr]
theorem St.push{L:List (List Nat)}{l:List aN}(h:St L n l g)(h4:n%4=0)(A:Nat):Mid L n (l++[g]) ⟨bZ (n / 4),[],.aA,A,A⟩:=by
 rcases h with⟨rfl,rfl,h⟩|⟨q,h1,h2,h3,h5⟩
 ·exact⟨0,by simp[pre,h],rfl,by omega,by omega⟩
 ·have hn:n=4*q+4:=by omega
  subst hn;refine⟨q+1,by rw[ui,h1,zsf,zx,h2];rfl,?_,by omega,by omega⟩;unfold aN.sp spN;rw[show(4*q+4) / 4=q+1 by omega,show 4*q+4=4*(q+1)by omega,qv5];rfl
theorem St.mid{L:List (List Nat)}{l:List aN}(h:St L n l g)(h4:¬ n%4=0):Mid L n l g:=by
 rcases h with⟨rfl,_,_⟩|⟨q,h1,h2,h3,h5⟩
 ·omega
 ·exact⟨q,h1,h2,by omega,by omega⟩
theorem St.len{L:List (List Nat)}{l:List aN}(h:St L n l g)(hn:n<=12):l.length<=4:=by
 rcases h with⟨rfl,rfl,_⟩|⟨q,h1,h2,h3,h5⟩
 ·simp
 ·have e1:=congrArg List.length h1;simp only[qc,pre,pg,lAF]at e1;omega
theorem zkh(hC:aW C){j:Nat}(hj:20<=j){L:List (List Nat)}{v:AV}{H0:Hp}{cb sb:Nat}(hv:gV H0 v L){Q:pL}{q:pH}(hq:∀(H:Hp) (sv:AV) (l:List aN) (g:aN),OfI L v H0 H cb sb sv l g->St L (bF L) l g->Ok (q H) Q):∀(k n:Nat) (l:List aN) (g:aN) (sv:AV) (H:Hp),n<=bF L->bF L-n<k->OfI L v H0 H cb sb sv l g->St L n l g -> Ok (qki (C j) q (.ptr cb 0) (.ptr sb 0) k (iN n) H) Q
 |0,n,_,_,_,_,_,h,_,_=>by omega
 |k+1,n,l,g,sv,H,hi,hk,hI,hS=>by
  show Ok (q37 (C j) _ _ _ (qki (C j) _ _ _ k) _ H) Q;unfold q37;have hm:bF L<=12:=um _ _;have e0:=hI.cbk.is;simp only[go_sem,e0];refine Ok.ve (qkz hC (k:=j) (by omega) (hv.fm hI.fm)) ?_;rintro _ H2 ⟨rfl,f2⟩;have hI2:OfI L v H0 H2 cb sb sv l g:=⟨hI.cbk.fm f2,(f2.keep hI.sbl.2.2).trans hI.sbk,⟨hI.sbl.1,hI.sbl.2.1,lL hI.sbl.2.2 f2.nx⟩,hI.cbl,hI.ne,hI.ns,hI.tK,hI.sbd,hI.m.no f2,hI.an,tq hI.ax f2.nx,hI.fm.trans f2⟩;by_cases hlt:n<bF L
  ·simp only[go_sem,hlt];have next:∀(l:List aN) (g:aN) (sv:AV) (H:Hp),OfI L v H0 H cb sb sv l g->Mid L n l g->Ok (qkk (C j) (qki (C j) q (.ptr cb 0) (.ptr sb 0) k) (.ptr cb 0) (.ptr sb 0) (iN n) H) Q:=by
    intro l g sv H hI hM;refine zr2 hC hj hlt hv hI hM.len.1 (by have:=hM.len.2;omega) fun H' rv' rg hr hI'=>?_;exact zkh hC hj hv hq k (n+1) l _ sv H' (by omega) (by omega) hI' (hM.rel hr)
   by_cases h4:n%4=0
   ·refine zj5 hC hj hlt h4 hI2 (by have:=hS.len (by omega);omega) fun H' rE A hI'=>?_;exact next _ _ _ _ hI' (hS.push h4 A)
   ·rw[qh7];unfold qi7;simp(disch:=go_size)only[go_sem,rB,rI,rK,rL,rN,rS,r6,h4];exact next _ _ _ _ hI2 (hS.mid h4)
  ·have he:n=bF L:=by omega
   subst he;simp only[go_sem,hlt];exact hq H2 sv l g hI2 hS
end Go.Di
end
