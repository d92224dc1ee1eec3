/-
 For TablesOf: functions in direct style, their contracts, and the plain mathematics, part 3 of 10. No conditions beyond those that each theorem states.
-/
import Derived.Test.YtlanjbacddlobaaGreatConA
import Derived.Test.YtlanjbacddlobaaGreatEv4
import Derived.Test.YtlanjbacddlobaaGreatConB
set_option linter.unusedSimpArgs false
set_option linter.unusedVariables false
open Nat renaming reduceAdd->rB,reduceMul->rI,reduceSub->rK,reduceLeDiff->rL,reduceEqDiff->rN,reduceShiftRight->rS,reduceAnd->r8
noncomputable section
namespace Go.Di
open Go.Ev
variable {P:Program} {d n:Nat} {O:Ev.Call}
theorem pT{α:Type}{c:Code}{K:Kt d}{X Y:α}(e:X=Y)(f:α->TT AV d->pL)(h:Lk P d n O c K (f Y)):Lk P d n O c K (f X):=by rw[e];exact h
theorem bT{f:FuncId}{F:Func}(hf:P.funcs[f]? =some F){args:List AV}(h:(!(F.name == "runtime.NumGoroutine")&&(F.body.isSome&&(qlf (codeOf F)&&(Nat.ble args.length F.ntmps&&Nat.ble (F.ntmps+1) 262144))))=true)
  {D:TT AV (eF (F.ntmps+1))->pL} (l:Lk P (eF (F.ntmps+1)) F.ntmps O (codeOf F) (aE6 (qb7 P (eF (F.ntmps+1)) F.ntmps F.results.toList).f) D) (H:Hp) :
  (aO P f).f O args H=D (pE args 0 (same .undef _)) H:=by
 rw[lI0,lI0,lI0]at h;exact qga hf (by simpa using h.1) h.2.1 h.2.2.1 h.2.2.2 l H
theorem pA{f:FuncId}{F:Func}(hf:P.funcs[f]? =some F){args:List AV}{D:TT AV (eF (F.ntmps+1))->pL}(l:Lk P (eF (F.ntmps+1)) F.ntmps O (codeOf F) (aE6 (qb7 P (eF (F.ntmps+1)) F.ntmps F.results.toList).f) D){H:Hp}{r}(e:D (pE args 0 (same .undef _)) H=r:=by kernel_rfl)(h:(!(F.name == "runtime.NumGoroutine")&&(F.body.isSome&&(qlf (codeOf F)&&(Nat.ble args.length F.ntmps&&Nat.ble (F.ntmps+1) 262144))))=true:=by kernel_rfl):(aO P f).f O args H=r:=(bT hf h l H).trans e
end Go.Di
end
noncomputable section
namespace Go.Di
open Go.Ev
variable {H H' H0:Hp} {S:Nat->Prop} {b i n z:Nat} {l:List AV}
structure LP where
 n:Nat
 ps:List Tmp
 aC:Code
 bd:Code
def LP.blk(p:LP)(b:Bool)(L:TT AV 2):bX:=.loop b none 2 p.n L p.ps p.aC p.bd
def pu(L:TT AV 2):List (Nat×AV)->TT AV 2
 | []=>L
 |p::r=>pu ((setter 2 p.1).f L p.2) r
theorem xcf{l:Nat}{v:AV}{L:TT AV 2}{p:LP}{M:TT AV 2}{E:TT AV 2->pL}{K:Kt 2}(h:H'.get l=p.blk true M):fin (endLoop l (.ok v H') L) (aAP i (thn E K))=E L (H'.put l .dead):=by unfold endLoop;simp only[h];rfl
theorem zrj{l:Nat}{L M:TT AV 2}{p:LP}(h:H.get l=p.blk false M):endRound l (.ok .normal L H)=.ok (.bool true) (H.put l (p.blk true M)):=by unfold endRound;simp only[z3d,h];rfl
def q6o(O:Ev.Call)(x2 x5:AV)(H:Hp):R1:=vq (aP 0 x5) H fun a3 H=>vq (aN H a3) H fun a4 H=>ve (O (.f 129) [a4] H) fun a5 H=>vq (aP 0 x5) H fun a6 H=>ve (jN H a6 a5) fun _ H=>vq (dB 2 H x5) H fun a8 H=>ve (qdc 2 H x2 a8) fun _ H=>cO (eT (d9 (rV (dB 2 H x2)) (d9 (some (iN 0)) (some [])))) H
def qhj(O:Ev.Call)(l:Nat)(L:TT AV 2)(x5 x6:AV)(H:Hp):R1:=dz 8 H fun b16 H=>dn 0 0 b16 H [] [] (aP 0 x5) fun a17 H p w=>dl 1 1 b16 H p w (fun H=>aN H a17) fun bU H p w=>dn 2 0 b16 H p w (.val x6) fun dG H p w=>de 4 H p w (O (.f 88) [dG] (fI 4 p H)) (some true) fun a20 H p w=>da 4 12 b16 H p w (vT 1 (b16+4) (cB (aZ [.aA] 1) [(0,1,a20)])) fun a21 H p w=>de 31 H p w (kJ 1 24 (fI 31 p H) bU (pJ 1 (fI 31 p H) a21)) (some true) fun a22 H p w=>dn 6 63 b16 H p w (aP 0 x5) fun a23 H p w=>de 127 H p w (jN (fI 127 p H) a23 a22) (some true) fun _ H p w=>dz2 p H fun H=>endRound l (.ok .normal L H)
def q6n(O:Ev.Call)(g27:pH)(x29:AV)(H:Hp):R1:=vq (fO (lS .add).f x29 (iN 1)) H fun a29 H=>g27 a29 H
def q6m(O:Ev.Call)(g27:pH)(x5 x27 x29:AV)(H:Hp):R1:=vq (aG 1 x27 x29) H fun a31 H=>vq (aN H a31) H fun a32 H=>vq (aP 1 x5) H fun a33 H=>vq (aN H a33) H fun a34 H=>vq (aP 0 x5) H fun a35 H=>vq (aN H a35) H fun a36 H=>vq (aD a36) H fun a37 H=>vq (aG 1 a34 a32) H fun a38 H=>ve (jN H a38 a37) fun _ H=>q6n O g27 x29 H
def q6p(O:Ev.Call)(zK:pL)(x5 x27 x28:AV)(g27:pH)(x29:AV)(H:Hp):R1:=vq (fO (lS .lss).f x29 x28) H fun a28 H=>cd a28 (q6m O g27 x5 x27 x29 H) (zK H)
def qks(O:Ev.Call)(zK:pL)(x5 x27 x28:AV)(n:Nat):pH:=Nat.rec (motive:=fun _=>pH) (fun _ _=>.bad) (fun _ ih=>q6p O zK x5 x27 x28 ih) n
def q6q(O:Ev.Call)(zK:pL)(x5 x27 x28:AV):pH:=qks O zK x5 x27 x28 dN
def vK(O:Ev.Call)(l:Nat)(L:TT AV 2)(x5 sS:AV)(H:Hp):R1:=vq (aD sS) H fun a26 H=>q6q O (fun H=>qhj O l L x5 sS H) x5 sS a26 (iN 0) H
def zvt(LO:LP)(O:Ev.Call)(L:TT AV 2)(x25:AV)(H:Hp):R1:=fin (endLoop H.nx (qj9 O x25 [.yield H.nx] (aK H (LO.blk true L))) L) (aAP 0 (thn (fun L H=>q6o O (G L 2) (G L 5) H) (aE6 fun L H=>eT (d9 (rV (dB 2 H (G L 2))) (d9 (some (G L 3)) (some []))))))
def qqa(LO:LP)(O:Ev.Call)(L:TT AV 2)(x1:AV)(H:Hp):R1:=dz 0 H fun b11 H=>dl 0 0 b11 H [] [] (fun H=>dB 2 H x1) fun a12 H p w=>dl 1 0 b11 H p w (fun H=>dB 2 H x1) fun bV H p w=>de 2 H p w (O (.f 128) [bV] (fI 2 p H)) (some true) fun bW H p w=>de 7 H p w (O (.f 127) [a12,bW] (fI 7 p H)) (some true) fun bJ H p w=>dz2 p H fun H=>zvt LO O (pu L [(22,a12),(23,bV),(24,bW),(25,bJ)]) bJ H
def q6l(LO:LP)(O:Ev.Call)(L:TT AV 2)(x1 x2:AV)(H:Hp):R1:=vq (.new (.ptr H.nx 0) (aB 0 [.aA,.aA])) H fun a2 H=>vq (aP 0 x1) H fun a42 H=>vq (aN H a42) H fun a43 H=>vq (fO (lS .gtr).f a43 (iN 0)) H fun a44 H=>cd a44 (vq (aP 0 x1) H fun a45 H=>vq (aN H a45) H fun a46 H=>vq (qer [iN 0] 8 H.nx a46 a46) H fun a47 H=>vq (aP 1 a2) H fun a48 H=>ve (jN H a48 a47) fun _ H=>qqa LO O (pu L [(5,a2),(15,a42),(16,a43),(17,a44),(18,a45),(19,a46),(20,a47),(21,a48)]) x1 H) (qqa LO O (pu L [(5,a2),(15,a42),(16,a43),(17,a44)]) x1 H)
def z6n(LO:LP)(O:Ev.Call)(L:TT AV 2)(x0:AV)(H:Hp):R1:=vq (zG 2 H.nx x0) H fun a0 H=>vq (.new (.ptr H.nx 0) (aB 0 [.aA,.aA])) H fun a1 H=>vq (dB 2 H a0) H fun a51 H=>ve (O (.f 126) [a51] H) fun a52 H=>vq (fO (lS .neq).f a52 (iN 0)) H fun a53 H=>cd a53 (vq (bY (cB [.aA,.aA] [])) H fun a54 H=>ve (qdc 2 H a1 a54) fun _ H=>cO (eT (d9 (rV (dB 2 H a1)) (d9 (some a52) (some [])))) H) (q6l LO O (pu L [(1,a0),(2,a1),(3,iN 0),(9,a51),(10,a52),(4,a52),(11,a52),(12,a53)]) a0 a1 H)
def zBo(LO:LP)(O:Ev.Call)(x0:AV)(H:Hp):R1:=z6n LO O (pE [x0] 0 (same .undef 2)) x0 H
def qgh(O:Ev.Call)(x2:AV)(H:Hp):R1:=vq (aN H x2) H fun a1 H=>.ok a1 H
def fG(O:Ev.Call)(l:Nat)(L:TT AV 2)(x2 x7:AV)(H:Hp):R1:=vq (aN H x2) H fun a3 H=>vq (vT 1 H.nx (cB (aZ [iN 0] 1) [(0,1,x7)])) H fun a4 H=>ve (kJ 1 8 H a3 (pJ 1 H a4)) fun a5 H=>ve (jN H x2 a5) fun _ H=>endRound l (.ok .normal L H)
def qh3(LA:LP)(O:Ev.Call)(L:TT AV 2)(x1:AV)(H:Hp):R1:=fin (endLoop H.nx (qj9 O x1 [.yield H.nx] (aK H (LA.blk true L))) L) (aAP 0 (thn (fun L H=>qgh O (G L 2) H) (aE6 fun L _=>some (G L 4))))
def qh4(LA:LP)(O:Ev.Call)(L:TT AV 2)(x0 x1:AV)(H:Hp):R1:=vq (mX H.nx x0) H fun a0 H=>qh3 LA O (pu L [(2,a0),(4,.aA),(6,x1)]) x1 H
def jZ(LA:LP)(O:Ev.Call)(x0 x1:AV)(H:Hp):R1:=qh4 LA O (pE [x0,x1] 0 (same .undef 2)) x0 x1 H
structure bB1(LA LO:LP)(c d:Ev.Call):Prop where
 jZ:∀(x0 x1:AV) (H:Hp),c (.f 218) [x0,x1] H=Di.jZ LA d x0 x1 H
 fG:∀(L:TT AV 2) (l:Nat) (v:AV) (H:Hp),H.get l=LA.blk true L->c (.y l) [v] H=Di.fG d l L (G L 2) v (H.put l (LA.blk false L))
 zBo:∀(x0:AV) (H:Hp),c (.f 106) [x0] H=Di.zBo LO d x0 H
 vK:∀(L:TT AV 2) (l:Nat) (v:AV) (H:Hp),H.get l=LO.blk true L->c (.y l) [v] H=Di.vK d l L (G L 5) v (H.put l (LO.blk false L))
abbrev uI(LA LO:LP)(C:Nat->Ev.Call):Prop:=∀ k,bB1 LA LO (C (k+1)) (C k)
structure Lnk(c d:Ev.Call):Prop where
 zGt:∀ x0 x1 x2 H,c (.f 3) [x0,x1,x2] H=Di.zGt d x0 x1 x2 H
 zAc:∀ x0 H,c (.f 5) [x0] H=Di.zAc d x0 H
 zGv:∀ x0 H,c (.f 6) [x0] H=Di.zGv d x0 H
 zAh:∀ x0 H,c (.f 7) [x0] H=Di.zAh d x0 H
 zAf:∀ x0 H,c (.f 9) [x0] H=Di.zAf d x0 H
 zAg:∀ x0 H,c (.f 8) [x0] H=Di.zAg d x0 H
 zGw:∀ x0 H,c (.f 10) [x0] H=Di.zGw d x0 H
 zGx:∀ x0 H,c (.f 11) [x0] H=Di.zGx d x0 H
 zGy:∀ x0 x1 H,c (.f 12) [x0,x1] H=Di.zGy d x0 x1 H
 zGz:∀ x0 x1 x2 H,c (.f 13) [x0,x1,x2] H=Di.zGz d x0 x1 x2 H
 zHa:∀ x0 x1 x2 H,c (.f 14) [x0,x1,x2] H=Di.zHa d x0 x1 x2 H
 zHb:∀ x0 x1 x2 H,c (.f 15) [x0,x1,x2] H=Di.zHb d x0 x1 x2 H
 zHc:∀ x0 H,c (.f 16) [x0] H=Di.zHc d x0 H
 zHd:∀ x0 H,c (.f 17) [x0] H=Di.zHd d x0 H
 zAy:∀ x0 x1 x2 H,c (.f 18) [x0,x1,x2] H=Di.zAy d x0 x1 x2 H
 zHe:∀ x0 H,c (.f 20) [x0] H=Di.zHe d x0 H
 zHf:∀ x0 x1 H,c (.f 19) [x0,x1] H=Di.zHf d x0 x1 H
 zAm:∀ x0 x1 x2 H,c (.f 21) [x0,x1,x2] H=Di.zAm d x0 x1 x2 H
 zAn:∀ x0 H,c (.f 28) [x0] H=Di.zAn d x0 H
 zAo:∀ x0 H,c (.f 29) [x0] H=Di.zAo d x0 H
 zAp:∀ x0 x1 x2 x3 x4 H,c (.f 30) [x0,x1,x2,x3,x4] H=Di.zAp d x0 x1 x2 x3 x4 H
 zAq:∀ x0 H,c (.f 31) [x0] H=Di.zAq d x0 H
 zAr:∀ x0 x1 H,c (.f 32) [x0,x1] H=Di.zAr d x0 x1 H
 zAs:∀ x0 x1 x2 H,c (.f 33) [x0,x1,x2] H=Di.zAs d x0 x1 x2 H
 zAd:∀ x0 H,c (.f 34) [x0] H=Di.zAd d x0 H
 zAj:∀ x0 H,c (.f 35) [x0] H=Di.zAj d x0 H
 zHg:∀ x0 H,c (.f 36) [x0] H=Di.zHg d x0 H
 zAi:∀ x0 x1 x2 H,c (.f 37) [x0,x1,x2] H=Di.zAi d x0 x1 x2 H
 zHh:∀ x0 H,c (.f 38) [x0] H=Di.zHh d x0 H
 zHi:∀ x0 x1 x2 x3 H,c (.f 40) [x0,x1,x2,x3] H=Di.zHi d x0 x1 x2 x3 H
 zHj:∀ x0 x1 H,c (.f 39) [x0,x1] H=Di.zHj d x0 x1 H
 zAx:∀ x0 H,c (.f 42) [x0] H=Di.zAx d x0 H
 zAz:∀ x0 x1 x2 H,c (.f 43) [x0,x1,x2] H=Di.zAz d x0 x1 x2 H
 zBa:∀ x0 x1 x2 x3 H,c (.f 44) [x0,x1,x2,x3] H=Di.zBa d x0 x1 x2 x3 H
 zBb:∀ x0 x1 x2 x3 H,c (.f 45) [x0,x1,x2,x3] H=Di.zBb d x0 x1 x2 x3 H
 zHk:∀ x0 H,c (.f 46) [x0] H=Di.zHk d x0 H
 zHl:∀ x0 x1 x2 H,c (.f 47) [x0,x1,x2] H=Di.zHl d x0 x1 x2 H
 zHm:∀ x0 x1 H,c (.f 23) [x0,x1] H=Di.zHm d x0 x1 H
 zHn:∀ x0 x1 H,c (.f 24) [x0,x1] H=Di.zHn d x0 x1 H
 zHo:∀ x0 x1 H,c (.f 48) [x0,x1] H=Di.zHo d x0 x1 H
 zCx:∀ x0 H,c (.f 49) [x0] H=Di.zCx d x0 H
 zHp:∀ x0 x1 H,c (.f 50) [x0,x1] H=Di.zHp d x0 x1 H
 zHq:∀ x0 H,c (.f 51) [x0] H=Di.zHq d x0 H
 zBs:∀ x0 x1 H,c (.f 52) [x0,x1] H=Di.zBs d x0 x1 H
 zBe:∀ x0 H,c (.f 67) [x0] H=Di.zBe d x0 H
 zBf:∀ x0 x1 x2 x3 H,c (.f 68) [x0,x1,x2,x3] H=Di.zBf d x0 x1 x2 x3 H
 zBg:∀ x0 x1 x2 x3 H,c (.f 69) [x0,x1,x2,x3] H=Di.zBg d x0 x1 x2 x3 H
 zBh:∀ x0 H,c (.f 70) [x0] H=Di.zBh d x0 H
 zBi:∀ x0 x1 x2 H,c (.f 71) [x0,x1,x2] H=Di.zBi d x0 x1 x2 H
 zAt:∀ x0 H,c (.f 72) [x0] H=Di.zAt d x0 H
 zAu:∀ x0 H,c (.f 73) [x0] H=Di.zAu d x0 H
 zAv:∀ x0 x1 H,c (.f 74) [x0,x1] H=Di.zAv d x0 x1 H
 zAw:∀ x0 x1 H,c (.f 75) [x0,x1] H=Di.zAw d x0 x1 H
 zBc:∀ x0 H,c (.f 76) [x0] H=Di.zBc d x0 H
 zHr:∀ x0 H,c (.f 77) [x0] H=Di.zHr d x0 H
 zBm:∀ x0 x1 x2 x3 H,c (.f 41) [x0,x1,x2,x3] H=Di.zBm d x0 x1 x2 x3 H
 zBk:∀ x0 H,c (.f 78) [x0] H=Di.zBk d x0 H
 zHs:∀ x0 H,c (.f 83) [x0] H=Di.zHs d x0 H
 zHt:∀ x0 H,c (.f 85) [x0] H=Di.zHt d x0 H
 zHu:∀ x0 H,c (.f 84) [x0] H=Di.zHu d x0 H
 zHv:∀ x0 H,c (.f 87) [x0] H=Di.zHv d x0 H
 zCq:∀ x0 H,c (.f 86) [x0] H=Di.zCq d x0 H
 zHw:∀ x0 H,c (.f 89) [x0] H=Di.zHw d x0 H
 zBd:∀ x0 H,c (.f 88) [x0] H=Di.zBd d x0 H
 zHx:∀ x0 H,c (.f 90) [x0] H=Di.zHx d x0 H
 zBw:∀ x0 H,c (.f 91) [x0] H=Di.zBw d x0 H
 zHy:∀ x0 x1 x2 H,c (.f 92) [x0,x1,x2] H=Di.zHy d x0 x1 x2 H
 zHz:∀ x0 x1 H,c (.f 93) [x0,x1] H=Di.zHz d x0 x1 H
 zIa:∀ x0 x1 H,c (.f 94) [x0,x1] H=Di.zIa d x0 x1 H
 zBt:∀ x0 x1 x2 H,c (.f 103) [x0,x1,x2] H=Di.zBt d x0 x1 x2 H
 zBj:∀ x0 H,c (.f 79) [x0] H=Di.zBj d x0 H
 zBl:∀ x0 x1 x2 x3 x4 x5 x6 H,c (.f 104) [x0,x1,x2,x3,x4,x5,x6] H=Di.zBl d x0 x1 x2 x3 x4 x5 x6 H
 zBn:∀ x0 H,c (.f 105) [x0] H=Di.zBn d x0 H
 zBp:∀ x0 H,c (.f 107) [x0] H=Di.zBp d x0 H
 zBq:∀ x0 H,c (.f 108) [x0] H=Di.zBq d x0 H
 zBr:∀ x0 H,c (.f 80) [x0] H=Di.zBr d x0 H
 zBx:∀ x0 x1 x2 H,c (.f 81) [x0,x1,x2] H=Di.zBx d x0 x1 x2 H
 zBy:∀ x0 x1 x2 x3 H,c (.f 82) [x0,x1,x2,x3] H=Di.zBy d x0 x1 x2 x3 H
 zCo:∀ x0 x1 x2 x3 x4 x5 x6 H,c (.f 111) [x0,x1,x2,x3,x4,x5,x6] H=Di.zCo d x0 x1 x2 x3 x4 x5 x6 H
 zCp:∀ x0 H,c (.f 113) [x0] H=Di.zCp d x0 H
 zIb:∀ x0 x1 H,c (.f 114) [x0,x1] H=Di.zIb d x0 x1 H
 zBu:∀ x0 H,c (.f 109) [x0] H=Di.zBu d x0 H
 zBv:∀ x0 x1 x2 H,c (.f 110) [x0,x1,x2] H=Di.zBv d x0 x1 x2 H
 zBz:∀ x0 x1 H,c (.f 122) [x0,x1] H=Di.zBz d x0 x1 H
 zCb:∀ x0 H,c (.f 125) [x0] H=Di.zCb d x0 H
 zCc:∀ x0 H,c (.f 124) [x0] H=Di.zCc d x0 H
 zCd:∀ x0 H,c (.f 126) [x0] H=Di.zCd d x0 H
 zCe:∀ x0 H,c (.f 128) [x0] H=Di.zCe d x0 H
 zCf:∀ x0 x1 H,c (.f 127) [x0,x1] H=Di.zCf d x0 x1 H
 zCg:∀ x0 H,c (.f 129) [x0] H=Di.zCg d x0 H
 zDb:∀ x0 H,c (.f 112) [x0] H=Di.zDb d x0 H
 zCi:∀ x0 H,c (.f 133) [x0] H=Di.zCi d x0 H
 zCj:∀ x0 x1 x2 x3 H,c (.f 135) [x0,x1,x2,x3] H=Di.zCj d x0 x1 x2 x3 H
 zCk:∀ x0 x1 H,c (.f 136) [x0,x1] H=Di.zCk d x0 x1 H
 zCl:∀ x0 x1 x2 x3 H,c (.f 138) [x0,x1,x2,x3] H=Di.zCl d x0 x1 x2 x3 H
 zCm:∀ x0 x1 x2 H,c (.f 140) [x0,x1,x2] H=Di.zCm d x0 x1 x2 H
 zCn:∀ x0 H,c (.f 134) [x0] H=Di.zCn d x0 H
 zCr:∀ x0 x1 H,c (.f 144) [x0,x1] H=Di.zCr d x0 x1 H
 zCs:∀ x0 H,c (.f 145) [x0] H=Di.zCs d x0 H
 zCt:∀ x0 H,c (.f 100) [x0] H=Di.zCt d x0 H
 zCu:∀ x0 x1 H,c (.f 151) [x0,x1] H=Di.zCu d x0 x1 H
 zCv:∀ x0 x1 H,c (.f 149) [x0,x1] H=Di.zCv d x0 x1 H
 zCw:∀ x0 x1 x2 x3 H,c (.f 150) [x0,x1,x2,x3] H=Di.zCw d x0 x1 x2 x3 H
 zCy:∀ x0 x1 H,c (.f 137) [x0,x1] H=Di.zCy d x0 x1 H
 zCz:∀ x0 x1 x2 H,c (.f 139) [x0,x1,x2] H=Di.zCz d x0 x1 x2 H
 zDa:∀ x0 x1 H,c (.f 141) [x0,x1] H=Di.zDa d x0 x1 H
 zDc:∀ x0 H,c (.f 159) [x0] H=Di.zDc d x0 H
 zDd:∀ x0 x1 H,c (.f 171) [x0,x1] H=Di.zDd d x0 x1 H
 zDe:∀ x0 x1 H,c (.f 172) [x0,x1] H=Di.zDe d x0 x1 H
 zDf:∀ x0 x1 H,c (.f 154) [x0,x1] H=Di.zDf d x0 x1 H
 zDg:∀ x0 x1 H,c (.f 156) [x0,x1] H=Di.zDg d x0 x1 H
 zDh:∀ x0 x1 H,c (.f 155) [x0,x1] H=Di.zDh d x0 x1 H
 zDj:∀ x0 x1 H,c (.f 199) [x0,x1] H=Di.zDj d x0 x1 H
 zDk:∀ x0 H,c (.f 201) [x0] H=Di.zDk d x0 H
 zDl:∀ x0 H,c (.f 200) [x0] H=Di.zDl d x0 H
 zDm:∀ x0 x1 H,c (.f 183) [x0,x1] H=Di.zDm d x0 x1 H
 zDn:∀ x0 x1 H,c (.f 158) [x0,x1] H=Di.zDn d x0 x1 H
 zDo:∀ x0 x1 H,c (.f 157) [x0,x1] H=Di.zDo d x0 x1 H
 zDp:∀ x0 x1 H,c (.f 184) [x0,x1] H=Di.zDp d x0 x1 H
 zDq:∀ x0 x1 H,c (.f 214) [x0,x1] H=Di.zDq d x0 x1 H
 zDr:∀ x0 H,c (.f 213) [x0] H=Di.zDr d x0 H
 zDs:∀ x0 x1 H,c (.f 185) [x0,x1] H=Di.zDs d x0 x1 H
abbrev aU(C:Nat->Ev.Call):Prop:=∀ k,Lnk (C (k+1)) (C k)
abbrev qsq(C:Nat->Ev.Call):Prop:=aU C
theorem yR:bZ=1000000:=rfl
attribute [go_sem] qqp qji qqo qjh qux qnw quw qnv quv qnu quu qnt qut qns qus qnr qur qnq quf qng que qnf qud qne q0q qxc
theorem lf{p:Prop}(h:p:=by rw[yR];omega):p:=h
theorem Gl.atN{v:AV}(h:Gl z H v n l)(c:i<n):∃ b o,aG z v (iN i)=.val (.ptr b o)/\b<H.nx/\In v b/\iF (H.get b) o z=some ((l.drop (i*z)).take z)/\∀(j:Nat),j<z->bI (H.get b) (o+j)=.val (l.getD (i*z+j) .undef):=by
 have f:=h.len;rcases h.is with⟨rfl,rfl⟩|⟨b,o,e,q,L,rfl,d,r,a,s,g⟩
 ·omega
 ·have m:i*z+z<=n*z:=by
   have:(i+1)*z<=n*z:=lO9 z c;rw[lOS,lUB]at this;exact this
  have p:o+n*z=L.length:=by rw[<-a,lIZ]at f;omega
  refine⟨b,o+i*z,uY _ _ _ _ _ _ _ _ c,g,⟨_,_,_,_,rfl⟩,?_,fun j k=>?_⟩
  ·rw[d,qbv,lEZ om,<-lXE,a]
  ·rw[d,qb3];have:L[o+i*z+j]? =l[i*z+j]? :=by rw[<-a,lU1];congr 1;omega
   rw[this,gp om];simp[lES,show i*z+j<l.length by omega]
structure Rs{α:Type}(z:Nat)(f:α->List AV)(H:Hp)(v:AV)(l:List α):Prop where
 len:aD v=.val (iN (l.length))
 at':∀ i (h:i<l.length),∃b o,aG z v (iN i)=.val (.ptr b o)/\b<H.nx/\In v b/\iF (H.get b) o z=some (f l[i])/\∀ j (h:j<(f l[i]).length),bI (H.get b) (o+j)=.val (f l[i])[j]
theorem Rs.dJ{α:Type}{f:α->List AV}{v:AV}{l:List α}(h:Rs z f H v l)(a:Fm S H H')(g:∀ b,In v b->¬ S b):Rs z f H' v l:=⟨h.len,fun i k=>by obtain⟨b,o,n,c,d,p,q⟩:=h.at' i k;have e:=a.get b c (g b d);exact⟨b,o,n,af c a.nx,d,by rw[e];exact p,fun j m=>by rw[e];exact q j m⟩⟩
theorem Rs.fm{α:Type}{f:α->List AV}{v:AV}{l:List α}(h:Rs z f H v l)(a:Fm No H H'):Rs z f H' v l:=h.dJ a fun _ _ h=>h
structure Ac{α:Type}(z:Nat)(f:α->List AV)(H0 H:Hp)(v:AV)(l:List α):Prop where
 gl:Gl z H v l.length (l.flatMap f)
 fm:Fm No H0 H
 nw:∀ b,In v b->H0.nx<=b
theorem Ac.nil{α:Type}(z:Nat)(f:α->List AV)(h:Fm No H0 H):Ac z f H0 H .aA ([]:List α):=⟨Gl.nil z H,h,fun b a=>by obtain⟨_,_,_,_,h⟩:=a;cases h⟩
theorem Ac.no{α:Type}{f:α->List AV}{v:AV}{l:List α}(h:Ac z f H0 H v l)(a:Fm No H H'):Ac z f H0 H' v l:=⟨h.gl.no a,h.fm.trans a,h.nw⟩
theorem Ac.aX{α:Type}{f:α->List AV}{v:AV}{l:List α}(h:Ac z f H0 H v l):aD v=.val (iN (l.length)):=h.gl.aX
theorem Ac.add{α:Type}{f:α->List AV}{v:AV}{l:List α}(h:Ac z f H0 H v l)(x:α)(w:Nat)(o:(f x).length=z)(a:(l.length+1)*w<=1099511627776)(d:l.length+1<=1099511627776):Ok (kJ z w H v (some ⟨1,f x⟩)) fun g H'=>Ac z f H0 H' g (l++[x]):=by
 obtain⟨H',e,j,_,m,nx'⟩:=h.gl.append (k:=1) (w:=w) (x:=f x) om om a d;refine⟨_,H',e,?_,h.fm.then m fun c p i=>by have:=h.nw c i;omega,fun b a=>?_⟩
 ·simp_all
 ·obtain⟨_,_,_,_,n⟩:=a;cases n;exact h.fm.nx
theorem qr5{α:Type}{z:Nat}{f:α->List AV}(b:∀ x,(f x).length=z):∀(l:List α) (i:Nat) (h:i<l.length),((l.flatMap f).drop (i*z)).take z=f l[i]
 | [],_,h=>by simp at h
 |a::l,0,_=>by simp_all
 |a::l,i+1,h=>by rw[lIQ,lOS,lUB,Nat.add_comm,<-lXE,List.drop_left' (b a)];exact qr5 b l i (by simpa using h)
theorem Gl.rs{α:Type}{f:α->List AV}(c:∀ x,(f x).length=z){v:AV}{l:List α}(h:Gl z H v l.length (l.flatMap f)):Rs z f H v l:=⟨h.aX,fun i d=>by
 obtain⟨b,o,g,k,m,e,n⟩:=h.atN d;rw[qr5 c l i d]at e;refine⟨b,o,g,k,m,e,fun j a=>?_⟩;rw[n j (by rw[c]at a;exact a)];have:(f l[i])[j]? =(l.flatMap f)[i*z+j]?:=by rw[<-qr5 c l i d,lXM,lEZ (by rw[c]at a;exact a),lU1]
 rw[gp a]at this;rw[lES,<-this];rfl⟩
theorem Ac.rs{α:Type}{f:α->List AV}(a:∀ x,(f x).length=z){v:AV}{l:List α}(h:Ac z f H0 H v l):Rs z f H v l:=h.gl.rs a
theorem Gl.lt{v:AV}(h:Gl z H v n l)(c:In v b):b<H.nx:=by
 obtain⟨o,d,m,e,rfl⟩:=c;rcases h.is with⟨a,_⟩|⟨f,g,i,q,L,a,_,_,_,_,j⟩
 ·cases a
 ·simp_all
structure o7{α:Type}(z:Nat)(f:α->List AV)(S:Nat->Prop)(H0 H:Hp)(v:AV)(l:List α):Prop where
 gl:Gl z H v l.length (l.flatMap f)
 fm:Fm S H0 H
 nw:∀ b,In v b->S b\/H0.nx<=b
theorem o7.no{α:Type}{f:α->List AV}{v:AV}{l:List α}(h:o7 z f S H0 H v l)(a:Fm No H H'):o7 z f S H0 H' v l:=⟨h.gl.no a,h.fm.then a fun _ _ h=>absurd h id,h.nw⟩
theorem o7.aX{α:Type}{f:α->List AV}{v:AV}{l:List α}(h:o7 z f S H0 H v l):aD v=.val (iN (l.length)):=h.gl.aX
theorem o7.add{α:Type}{f:α->List AV}{v:AV}{l:List α}(h:o7 z f S H0 H v l)(x:α)(w:Nat)(o:(f x).length=z)(a:(l.length+1)*w<=1099511627776)(d:l.length+1<=1099511627776):Ok (kJ z w H v (some ⟨1,f x⟩)) fun g H'=>o7 z f S H0 H' g (l++[x]):=by
 obtain⟨H',e,j,_,m,nx'⟩:=h.gl.append (k:=1) (w:=w) (x:=f x) om om a d;refine⟨_,H',e,?_,h.fm.then m fun c p i=>?_,fun b a=>?_⟩
 ·simp_all
 ·rcases h.nw c i with h|h
  ·exact h
  ·omega
 ·obtain⟨_,_,_,_,n⟩:=a;cases n;exact .inr h.fm.nx
theorem Ac.start{α:Type}{f:α->List AV}{v:AV}{l:List α}(h:Ac z f H0 H v l):o7 z f (In v) H H v l:=⟨h.gl,Fm.refl _ _,fun _ h=>.inl h⟩
theorem Ac.old{α:Type}{f:α->List AV}{v:AV}{l:List α}(h:Ac z f H0 H v l)(a:Fm (In v) H H'):Fm No H0 H':=h.fm.then a fun c d b=>by have:=h.nw c b;omega
theorem Ac.fin{α:Type}{f:α->List AV}{v d:AV}{l e:List α}(h:Ac z f H0 H v l)(a:o7 z f (In v) H H' d e):Ac z f H0 H' d e:=⟨a.gl,h.old a.fm,fun b g=>by
 rcases a.nw b g with c|c
 ·exact h.nw b c
 ·exact lI7 h.fm.nx c⟩
end Go.Di
end
noncomputable section
namespace Go.Di
open Go.Ev
variable {C:Nat->Ev.Call}
variable {H H' H0 H1:Hp} {S:Nat->Prop} {b i j k m n z:Nat} {O:Ev.Call} {cs l:List AV} {neg:Bool} {sv:AV}
structure SS where
 n:Nat
 a:Nat
 deriving DecidableEq
def SS.v(s:SS):AV:=.str s.n s.a
def sE:SS:=⟨0,0⟩
def sU:SS:=⟨4,1919251317⟩
def lvl(n:Nat):Nat:=[0,1,1,2].getD (n%4) 0
def gK(n:Nat):SS:=⟨2,12402+256*(n%4)⟩
def dK(n:Nat):SS:=⟨1,97+n%3⟩
def bF(L:List (List Nat)):Nat:=min L.length 12
def fK(L:List (List Nat))(n i:Nat):Nat:=(L.getD n []).getD i 0
structure Rl(H:Hp)(v:AV)(l:List AV):Prop where
 len:aD v=.val (iN (l.length))
 at':∀ i (h:i<l.length),∃b o,aG 1 v (iN i)=.val (.ptr b o)/\b<H.nx/\bI (H.get b) o=.val l[i]
theorem Rl.fm{v:AV}(h:Rl H v l)(f:Fm No H H'):Rl H' v l:=⟨h.len,fun i c=>by obtain⟨b,o,d,a,e⟩:=h.at' i c;exact⟨b,o,d,af a f.nx,by rw[f.keep a];exact e⟩⟩
def uQ(l:List Nat):List AV:=l.map fun x=>.int .u8 (.ofNat x)
structure iE(H:Hp)(v:AV)(L:List (List Nat)):Prop where
 flat:rH v=true
 ex:∃ ws:List AV,Rl H v ws/\ws.length=L.length/\∀ i (h:i<ws.length) (h':i<L.length),Rl H ws[i] (uQ L[i])
 lt:∀ l∈L,∀x∈l,x<256
theorem iE.fm{v:AV}{L:List (List Nat)}(h:iE H v L)(f:Fm No H H'):iE H' v L:=by obtain⟨ws,c,d,e⟩:=h.ex;exact⟨h.flat,⟨ws,c.fm f,d,fun i a b=>(e i a b).fm f⟩,h.lt⟩
theorem iE.len{v:AV}{L:List (List Nat)}(h:iE H v L):aD v=.val (iN (L.length)):=by obtain⟨ws,a,b,_⟩:=h.ex;rw[a.len,b]
theorem iE.at{v:AV}{L:List (List Nat)}(h:iE H v L)(a:i<L.length):∃ b o w,aG 1 v (iN i)=.val (.ptr b o)/\b<H.nx/\bI (H.get b) o=.val w/\Rl H w (uQ L[i]):=by obtain⟨ws,c,j,d⟩:=h.ex;obtain⟨b,o,e,f,g⟩:=c.at' i om;exact⟨b,o,ws[i]'om,e,f,g,d i om a⟩
theorem qv9(n a:Nat):wX (.str n a)=some [.str n a]:=id rfl
theorem xch(x:List AV):aZ x 4=x++(x++(x++x)):=id (by show x++(x++(x++(x++[])))=_;rw[lIM])
attribute [go_sem] qv9 xch
theorem aXE(a b:Nat):qO oO (iN a) [iN b]=.val (iN ((min a b))):=by
 show R0.val (.int .i64 (bif p9 (.ofNat b) (.ofNat a)then .ofNat b else .ofNat a))=_;rw[qd4];by_cases h:b<a
 ·rw[lI9 (by simp only[lIA];omega),Nat.min_eq_right om];rfl
 ·rw[lIF (by simp only[lIA];omega),lOE om];rfl
theorem qlg(a:aU C)(b:1<=k){v:AV}{L:List (List Nat)}(h:iE H v L):Ok (C k (.f 28) [.agg [v]] H) fun r H'=>r=iN ((bF L))/\Fm No H H':=by obtain⟨j,rfl⟩:=aT b;rw[(a j).zAn];unfold zAn z7l;have e:=h.len;simp(disch:=go_size)only[go_sem,seval,e,aXE];exact Ok.ret ⟨rfl,fm⟩
theorem at4{α:Type}(a b c d:α)(n:Nat):[a,b,c,d][n%4]? =some ([a,b,c,d].getD (n%4) a):=by
 have e:n%4<4:=lOK _ om
 match n%4,e with
 |0,_|1,_|2,_|3,_=>rfl
theorem at3{α:Type}(a b c:α)(n:Nat):[a,b,c][n%3]? =some ([a,b,c].getD (n%3) a):=by
 have d:n%3<3:=lOK _ om
 match n%3,d with
 |0,_|1,_|2,_=>rfl
theorem qd5(a:aU C)(b:1<=k)(n:Nat)(d:n<1000000)(H:Hp):Ok (C k (.f 70) [iN n] H) fun r H'=>r=iN ((lvl n))/\Fm No H H':=by
 obtain⟨j,rfl⟩:=aT b;rw[(a j).zBh];unfold zBh z6s;have c:n%4<4:=lOK _ om;simp(disch:=go_size)only[go_sem,seval,at4];refine Ok.ret ⟨?_,fm⟩;unfold lvl
 match n%4,c with
 |0,_|1,_|2,_|3,_=>rfl
theorem q2c(a:aU C)(b:1<=k)(n:Nat)(d:n<1000000)(H:Hp):Ok (C k (.f 31) [iN n] H) fun r H'=>r=(gK n).v/\Fm No H H':=by
 obtain⟨j,rfl⟩:=aT b;rw[(a j).zAq];unfold zAq z7j;have c:n%4<4:=lOK _ om;simp(disch:=go_size)only[go_sem,seval,at4];refine Ok.ret ⟨?_,fm⟩;unfold gK SS.v
 match n%4,c with
 |0,_|1,_|2,_|3,_=>rfl
theorem qn5(a:aU C)(b:1<=k)(n:Nat)(d:n<1000000)(H:Hp):Ok (C k (.f 29) [iN n] H) fun r H'=>r=(dK n).v/\Fm No H H':=by
 obtain⟨j,rfl⟩:=aT b;rw[(a j).zAo];unfold zAo z7k;have c:n%3<3:=lOK _ om;simp(disch:=go_size)only[go_sem,seval,at3];refine Ok.ret ⟨?_,fm⟩;unfold dK SS.v
 match n%3,c with
 |0,_|1,_|2,_=>rfl
theorem q81(s:aU C)(t:1<=k){v:AV}{L:List (List Nat)}(h:iE H v L)(l:n<L.length):Ok (C k (.f 71) [.agg [v],iN n,iN i] H) fun r H'=>r=.int .u8 (.ofNat (fK L n i))/\Fm No H H':=by
 obtain⟨j,rfl⟩:=aT t;rw[(s j).zBi];unfold zBi z6r;have a:Fm No H (aK H (aB 0 [v])):=by exact kW
 obtain⟨b,o,w,m,u,p,q⟩:=(h.fm a).at l;have c:=q.len;have d:(uQ L[n]).length=L[n].length:=by simp[uQ]
 rw[d]at c;have e:L.getD n []=L[n]:=by rw[lES,gp l];rfl
 by_cases g:i<L[n].length
 ·obtain⟨x,y,g1,g2,g3⟩:=q.at' i om;have f:(uQ L[n])[i]'om=.int .u8 (.ofNat (fK L n i)):=by
   unfold fK;rw[e,lES,gp g];simp[uQ]
  rw[f]at g3;simp(disch:=omega)only[go_sem,seval,m,p,c,g,g1,g3];exact Ok.ret ⟨rfl,a⟩
 ·have f:fK L n i=0:=by
   unfold fK;simp_all
  simp(disch:=omega)only[go_sem,seval,m,p,c,g];rw[f];exact Ok.ret ⟨rfl,a⟩
def ruV(k:Nat)(r t:SS)(a:AV):AV:=.agg [.int .u8 (.ofNat k),r.v,t.v,a]
def sC(s:SS):List AV:=[s.v]
theorem qvf(H:Hp)(b o n a:Nat):jN H (.ptr b o) (.str n a)=storeAt H b o [.str n a] .undef:=id rfl
attribute [go_sem] qvf
theorem qf6(a:aU C)(b:1<=k)(neg:Bool)(H:Hp):Ok (C k (.f 67) [.bool neg] H) fun r H'=>r=(if neg then ruV 2 (gK 0) sE .aA else ruV 1 sE sE .aA)/\Fm No H H':=by
 obtain⟨j,rfl⟩:=aT b;rw[(a j).zBe];unfold zBe z6w;cases neg
 ·simp only[go_sem];unfold z1w;simp(disch:=omega)only[go_sem,seval];exact Ok.ret ⟨rfl,fm⟩
 ·simp(disch:=omega)only[go_sem,seval];exact Ok.ret ⟨rfl,fm⟩
def ql6(n k:Nat)(neg:Bool):Bool:=decide (lvl k<lvl n)||(!neg&&decide (lvl k=lvl n))
theorem zq2(a:aU C)(f:2<=k)(n m:Nat)(d:n<1000000)(e:m<1000000)(neg:Bool)(H:Hp):Ok (C k (.f 103) [iN n,iN m,.bool neg] H) fun r H'=>r=.bool (ql6 n m neg)/\Fm No H H':=by
 obtain⟨j,rfl⟩:=aT f;rw[(a j).zBt];refine Ok.ve (qd5 a (k:=j) om m e H) ?_;rintro _ H1 ⟨rfl,b⟩;refine Ok.ve (qd5 a (k:=j) om n d H1) ?_;rintro _ i ⟨rfl,c⟩;unfold ql6;by_cases h:lvl m<lvl n
 ·have g:(lvl m<lvl n)=True:=lO5 h;simp only[go_sem,g];exact Ok.ret ⟨g3,b.trans c⟩
 ·cases neg
  ·simp only[go_sem,h];refine Ok.ve (qd5 a (k:=j) om m e i) ?_;rintro _ l ⟨rfl,o⟩;simp only[go_sem];refine Ok.ve (qd5 a (k:=j) om n d l) ?_;rintro _ q ⟨rfl,p⟩;simp only[go_sem];exact Ok.ret ⟨g3,((b.trans c).trans o).trans p⟩
  ·simp only[go_sem,h];exact Ok.ret ⟨g3,b.trans c⟩
def rg(a b:Nat):List Nat:=(List.range b).drop a
theorem qla{a i:Nat}(h:a<=i):rg a (i+1)=rg a i++[i]:=by unfold rg;rw[lX4,lO4 (by simpa using h)]
theorem qy1(a:Nat):rg a a=[]:=by unfold rg;rw[lO0 g3]
theorem qf5{a b x:Nat}:x∈rg a b↔a<=x/\x<b:=by
 unfold rg;rw[lXW];constructor
 ·rintro ⟨i,h,rfl⟩;simp at h ⊢;omega
 ·intro h;exact⟨x-a,g2,g2⟩
theorem qlx(a b:Nat):(rg a b).length=b-a:=by unfold rg;simp
def cmpL(m n:Nat)(neg:Bool):List SS:=((rg (n / 4*4) (min m (n / 4*4+4))).filter (ql6 n · neg)).map gK
theorem qq6(s:SS):(sC s).length=1:=rfl
structure zZ(H:Hp)(b:Nat)(v:AV):Prop where
 lt:b<H.nx
 is:H.get b=aB 0 [v]
theorem zZ.fm{v:AV}(h:zZ H b v)(f:Fm No H H'):zZ H' b v:=⟨af h.lt f.nx,(f.keep h.lt).trans h.is⟩
theorem qfc(b:aU C){j:Nat}(s:2<=j){v:AV}{L:List (List Nat)}{n cb:Nat}{neg:Bool}(t:n<100000){H1:Hp}{Q:pS}{q:pH}(f:iE H1 v L)(g:zZ H1 cb v)(e:∀ w H,Ac 1 sC H1 H w (cmpL (bF L) n neg)->Ok (q w H) Q):∀(k i:Nat) (w:AV) (H:Hp),n / 4*4<=i->i<=max (min (bF L) (n / 4*4+4)) (n / 4*4)->n / 4*4+4-i<k->Ac 1 sC H1 H w (((rg (n / 4*4) i).filter (ql6 n · neg)).map gK) -> Ok (qxu (C j) q (iN n) (.bool neg) (.ptr cb 0) k w (iN i) H) Q
 |0,i,_,_,_,_,h,_=>om
 |k+1,i,w,H,hi,hi2,hk,hw=>by
  show Ok (q60 (C j) _ _ _ _ (qxu (C j) _ _ _ _ k) _ _ H) Q;unfold q60;have l:=g.fm hw.fm;have x:=l.is;simp only[go_sem,x];refine Ok.ve (qlg b (k:=j) om (f.fm hw.fm)) ?_;rintro _ r ⟨rfl,z⟩;have a:=hw.no z;by_cases d:i<bF L/\i<n / 4*4+4
  ·obtain⟨c,p⟩:=d;simp(disch:=go_size)only[go_sem,rB,rI,rK,rL,rN,rS,r8,c,p];refine Ok.ve (zq2 b (k:=j) om n i om om neg r) ?_;rintro _ u ⟨rfl,A⟩;have m:=a.no A;have I:=qla hi;cases K:ql6 n i neg
   ·simp only[go_sem];unfold qxv;simp(disch:=go_size)only[go_sem,rB,rI,rK,rL,rN,rS,r8];refine qfc b s t f g e k (i+1) w u om om om ?_;simp_all
   ·simp only[go_sem];refine Ok.ve (q2c b (k:=j) om i om u) ?_;rintro _ B ⟨rfl,D⟩;have o:=m.no D;unfold SS.v;simp(disch:=omega)only[go_sem,seval];have J:(((rg (n / 4*4) i).filter (ql6 n · neg)).map gK).length<=4:=by
     rw[lET];refine lI7 (lU2 _ _) ?_;rw[qlx];omega
    refine Ok.ve ((o.no ((Fm.refl No B).push (aB 0 [.str (gK i).n (gK i).a]))).add (gK i) 16 rfl om om) ?_;intro E F G;unfold qxv;simp(disch:=go_size)only[go_sem,rB,rI,rK,rL,rN,rS,r8];refine qfc b s t f g e k (i+1) E F om om om ?_;simp_all
  ·have y:rg (n / 4*4) i=rg (n / 4*4) (min (bF L) (n / 4*4+4)):=by
    by_cases h:n / 4*4<=min (bF L) (n / 4*4+4)
    ·congr 1;omega
    ·unfold rg;rw[lO0 g2,lO0 g2]
   rw[y]at a;by_cases c:i<bF L
   ·have p:¬ i<n / 4*4+4:=fun h=>d ⟨c,h⟩;simp(disch:=go_size)only[go_sem,rB,rI,rK,rL,rN,rS,r8,c,p];exact e w r a
   ·simp only[go_sem,c];exact e w r a
theorem zd3(x:Nat)(h:x<256):q80 .i64 (.int .u8 (.ofNat x))=.val (iN x):=by show R0.val (.int .i64 (vZ .i64 (.ofNat x)))=_;rw[qgg _ om]
theorem zzn(n:Nat)(h:n<256):vZ .u8 (.ofNat n)=.ofNat n:=by show(bif Nat.blt n 256 then _ else _)=_;rw[blt_eq,lI9 h];rfl
theorem z2u(a b:Nat)(h:0<b)(c:a<256):fO (lS .quo).f (.int .u8 (.ofNat a)) (.int .u8 (.ofNat b))=.val (.int .u8 (.ofNat (a / b))):=by show(bif sK (.ofNat b) 0 then R0.bad else .val (.int .u8 (vZ .u8 (Int.tdiv (.ofNat a) (.ofNat b)))))=_;rw[qes,lIF (by simp only[lIA];omega)];show R0.val (.int .u8 (vZ .u8 (.ofNat (a / b))))=_;rw[zzn _ (lXP (Nat.div_le_self _ _) c)]
theorem xb6(n j:Nat)(k:IntKind)(h:j<=8):q1x (qjt .shr).f (.int .u8 (.ofNat n)) (.int k (.ofNat j))=.val (.int .u8 (.ofNat (n / 2 ^ j))):=by show(bif p9 (.ofNat j) 0 then R0.bad else .val (.int .u8 ((Int.ofNat n).fdiv (2 ^ (min j 8)))))=_;rw[qd4,lOE h];have a:decide ((Int.ofNat j)<0)=false:=g3;show R0.val (.int .u8 ((Int.ofNat n).fdiv (2 ^ j)))=_;congr 2;have b:((2:Int) ^ j)=Int.ofNat (2 ^ j):=g3;show Int.fdiv (n:Int) ((2 ^ j:Nat):Int)=((n / 2 ^ j:Nat):Int);rw[Int.fdiv_eq_ediv_of_nonneg _ (Int.natCast_nonneg _)];rfl
attribute [go_sem] zd3 z2u xb6
theorem zd4{v:AV}{L:List (List Nat)}(h:iE H v L)(n i:Nat):fK L n i<256:=by
 unfold fK;rw[lES,lES];cases a:L[n]? with
 |none=>simp
 |some l=>
  simp only[Option.getD_some];cases b:l[i]? with
  |none=>simp
  |some x=>exact h.lt l (lIK a) x (lIK b)
structure At(m n:Nat)(neg:Bool):Prop where
 lt:n<m
 le:m<=12
 up:neg=true->0<lvl n
theorem aWo(q:Nat):lvl (q*4)=0:=by unfold lvl;rw[Nat.mul_mod_left];rfl
theorem qzx(h:At m n neg):0<(cmpL m n neg).length:=by
 unfold cmpL;rw[lET];refine List.length_pos_of_mem (a:=n / 4*4) ?_;rw[lIV,qf5];have:=h.lt;refine⟨om,?_⟩;unfold ql6;rw[aWo];cases neg with
 |true=>simp[h.up rfl]
 |false=>simp;omega
theorem Rs.at1{α:Type}{f:α->List AV}{g:α->AV}(e:∀ x,f x=[g x]){v:AV}{l:List α}(h:Rs 1 f H v l)(a:i<l.length):∃b o,aG 1 v (iN i)=.val (.ptr b o)/\b<H.nx/\bI (H.get b) o=.val (g l[i]):=by obtain⟨b,o,c,d,_,j,k⟩:=h.at' i a;refine⟨b,o,c,d,?_⟩;simp_all
theorem qsd(l:aU C)(q:4<=k){v:AV}{L:List (List Nat)}{n c:Nat}(s:iE H v L)(d:At (bF L) n neg)(A:c<256):Ok (C k (.f 68) [.agg [v],iN n,.int .u8 (.ofNat c),.bool neg] H) fun r H'=>
   r=ruV 2 ((cmpL (bF L) n neg).getD (c%(cmpL (bF L) n neg).length) sE) sE .aA/\Fm No H H':=by
 obtain⟨j,rfl⟩:=aT q;rw[(l j).zBf];unfold zBf z6v;have u:=qzx d;have B:=d.lt;have x:=d.le;simp(disch:=go_size)only[go_sem,seval];unfold zlp;rw[dD];have m:Fm No H (aK (aK H (aB 0 [v])) (aB 0 [.int .u8 (.ofNat 0),.str 0 0,.str 0 0,.aA])):=by exact xE
 have f:Fm No (aK H (aB 0 [v])) (aK (aK H (aB 0 [v])) (aB 0 [.int .u8 (.ofNat 0),.str 0 0,.str 0 0,.aA])):=by exact kW
 have h:zZ (aK H (aB 0 [v])) H.nx v:=⟨by(go_size),g5⟩;refine qfc l om om (s.fm m) (h.fm f) (fun w t e=>?_) bZ (n / 4*4) .aA _ (lEO _) om lf ?_
 ·unfold zlo;have y:=e.aX;have i:=e.fm;have a:c%(cmpL (bF L) n neg).length<(cmpL (bF L) n neg).length:=lOK _ u;obtain⟨b,o,z,E,p⟩:=(e.rs qq6).at1 (g:=SS.v) (fun _=>rfl) a;have k2:t.get (H.nx+1)=aB 0 [.int .u8 (.ofNat 0),.str 0 0,.str 0 0,.aA]:=(i.keep gz).trans g5;unfold SS.v at p;have D:=i.nx;simp(disch:=omega)only[go_sem,seval,y,z,p,k2];refine Ok.ret ⟨?_,(m.trans i).aH _ _ om⟩;rw[lES,gp a];rfl
 ·rw[qy1];exact Ac.nil _ _ (Fm.refl _ _)
structure jX where
 sp:SS
 rl:SS
 deriving DecidableEq
def tC(t:jX):List AV:=[t.sp.v,t.rl.v]
theorem qfx(t:jX):(tC t).length=2:=rfl
def nS(m:Nat):Nat:=min 3 ((m+3) / 4)
def vH(c i:Nat):List jX:=⟨sU,sE⟩::((rg 0 i).filter fun i=>decide (c / 2 ^ i%2=1)).map fun i=>⟨dK i,sE⟩
def rR(m n:Nat):List jX:=((rg 0 m).filter fun k=>decide (lvl k<=lvl n)).map fun k=>⟨dK (k / 4),gK k⟩
def kY(L:List (List Nat))(n:Nat):List jX:=
 vH (fK L n 0) (nS (bF L))++if fK L n 1%2=1 then[(rR (bF L) n).getD (fK L n 1 / 2%(rR (bF L) n).length) ⟨sE,sE⟩]else[]
theorem Ac.one{α:Type}{f:α->List AV}(x:α)(a:(f x).length=z)(h:Fm No H0 H):Ac z f H0 (aK H (aB 0 (f x))) (.sl H.nx 0 1 1 true) [x]:=
 ⟨⟨by simp[a],.inr ⟨_,_,_,_,_,rfl,jQ _ _,lEV _,g3,.inl rfl,by rw[np];omega⟩⟩,h.push _,fun b c=>by obtain⟨_,_,_,_,d⟩:=c;cases d;exact h.nx⟩
theorem qhq(a:aU C){j:Nat}(p:2<=j){v:AV}{L:List (List Nat)}{n cb:Nat}(r:n<100000){H1:Hp}{Q:pS}{q:pH}(e:iE H1 v L)(f:zZ H1 cb v)(s:∀ w H,Ac 2 tC H1 H w (rR (bF L) n)->Ok (q w H) Q):∀(k i:Nat) (w:AV) (H:Hp),i<=bF L->bF L-i<k->Ac 2 tC H1 H w (rR i n) -> Ok (qx9 (C j) q (iN n) (.ptr cb 0) k w (iN i) H) Q
 |0,i,_,_,_,h,_=>om
 |k+1,i,w,H,hi,hk,hw=>by
  show Ok (q7e (C j) _ _ _ (qx9 (C j) _ _ _ k) _ _ H) Q;unfold q7e;have M:bF L<=12:=lO3 _ _;have g:=f.fm hw.fm;have x:=g.is;simp only[go_sem,x];refine Ok.ve (qlg a (k:=j) om (e.fm hw.fm)) ?_;rintro _ y ⟨rfl,z⟩;have l:=hw.no z;by_cases c:i<bF L
  ·simp only[go_sem,c];refine Ok.ve (qd5 a (k:=j) om i om y) ?_;rintro _ A ⟨rfl,B⟩;refine Ok.ve (qd5 a (k:=j) om n om A) ?_;rintro _ u ⟨rfl,D⟩;have b:=(l.no B).no D;have t:rg 0 (i+1)=rg 0 i++[i]:=qla (lEV _);by_cases d:lvl i<=lvl n
   ·simp(disch:=go_size)only[go_sem,rB,rI,rK,rL,rN,rS,r8,d];refine Ok.ve (qn5 a (k:=j) om (i / 4) om u) ?_;rintro _ E ⟨rfl,F⟩;refine Ok.ve (q2c a (k:=j) om i om E) ?_;rintro _ G ⟨rfl,I⟩;have m:=(b.no F).no I;unfold SS.v;simp(disch:=omega)only[go_sem,seval];have N:(rR i n).length<=12:=by
     unfold rR;rw[lET];refine lI7 (lU2 _ _) ?_;rw[qlx];omega
    refine Ok.ve ((m.no ((Fm.refl No G).push (aB 0 (tC ⟨dK (i / 4),gK i⟩)))).add ⟨dK (i / 4),gK i⟩ 32 rfl om om) ?_;intro J K o;unfold qyc;simp(disch:=go_size)only[go_sem,rB,rI,rK,rL,rN,rS,r8];refine qhq a p r e f s k (i+1) J K om om ?_;unfold rR;rw[t,lU5,lUN,lI9 d];simpa [rR] using o
   ·simp only[go_sem,d];unfold qyc;simp(disch:=go_size)only[go_sem,rB,rI,rK,rL,rN,rS,r8];refine qhq a p r e f s k (i+1) w u om om ?_;unfold rR;rw[t,lU5,lUN,lIF d];simpa [rR] using b
  ·have O:i=bF L:=om;simp only[go_sem,c];simp_all
theorem q7v(c i:Nat):(vH c i).length<=i+1:=by unfold vH;rw[lEX,lET];have:=lU2 (fun i=>decide (c / 2 ^ i%2=1)) (rg 0 i);rw[qlx]at this;omega
theorem qyq(h:n<m):0<(rR m n).length:=by unfold rR;rw[lET];refine List.length_pos_of_mem (a:=n) ?_;rw[lIV,qf5];simp_all
theorem Ac.trans{α:Type}{f:α->List AV}{v:AV}{l:List α}(a:Fm No H0 H1)(h:Ac z f H1 H v l):Ac z f H0 H v l:=⟨h.gl,a.trans h.fm,fun b c=>lI7 a.nx (h.nw b c)⟩
theorem Rs.atN{α:Type}{f:α->List AV}{v:AV}{l:List α}(h:Rs z f H v l)(a:i<l.length):∃b o,aG z v (iN i)=.val (.ptr b o)/\b<H.nx/\iF (H.get b) o z=some (f l[i]):=by obtain⟨b,o,c,d,_,e,_⟩:=h.at' i a;exact⟨b,o,c,d,e⟩
theorem zn9(i:aU C)(z:2<=j){v:AV}{L:List (List Nat)}{n cb:Nat}(q:n<bF L)(g:iE H v L)(l:zZ H cb v){w:AV}(A:Ac 2 tC H0 H w (vH (fK L n 0) (nS (bF L)))):Ok (qyb (C j) (iN n) (.ptr cb 0) w H) fun r H'=>Ac 2 tC H0 H' r (kY L n):=by
 have K:bF L<=12:=lO3 _ _;have a:n<L.length:=af q (lUL _ _);unfold qyb;have B:=l.is;simp only[go_sem,B];refine Ok.ve (q81 i (k:=j) om g a) ?_;rintro _ H1 ⟨rfl,f⟩;have c:=A.no f;unfold kY;have M:=zd4 g n 1;by_cases h:fK L n 1%2=1
 ·rw[lEZ h];simp(disch:=go_size)only[go_sem,rB,rI,rK,rL,rN,rS,r8,h];unfold zml;rw[dD];refine qhq i z om (g.fm f) (l.fm f) (fun u J s=>?_) bZ 0 .aA H1 (lEV _) lf (Ac.nil _ _ (Fm.refl _ _));unfold q7c;have m:=s.fm;have D:=((l.fm f).fm m).is;simp only[go_sem,D];refine Ok.ve (q81 i (k:=j) om ((g.fm f).fm m) a) ?_;rintro _ G ⟨rfl,x⟩;have d:=s.no x;have E:=d.aX;have e:fK L n 1 / 2%(rR (bF L) n).length<(rR (bF L) n).length:=lOK _ (qyq q);obtain⟨b,o,I,_,y⟩:=(d.rs qfx).atN e;have F:(rR (bF L) n).getD (fK L n 1 / 2%(rR (bF L) n).length) ⟨sE,sE⟩=(rR (bF L) n)[fK L n 1 / 2%(rR (bF L) n).length]:=by
   simp_all
  rw[F];have t:=q7v (fK L n 0) (nS (bF L));have N:nS (bF L)<=3:=lUL _ _;unfold tC at y;simp(disch:=go_size)only[go_sem,rB,rI,rK,rL,rN,rS,r8,E,I,y];refine Ok.ve ((((c.no m).no x).no ((Fm.refl No G).push (aB 0 (tC (rR (bF L) n)[fK L n 1 / 2%(rR (bF L) n).length])))).add _ 32 rfl om om) ?_;intro O P p;exact Ok.ret p
 ·rw[lEU h,lIM];simp(disch:=go_size)only[go_sem,rB,rI,rK,rL,rN,rS,r8,h];exact Ok.ret c
theorem qhr(b:aU C){j:Nat}(p:2<=j){v:AV}{L:List (List Nat)}{n cb:Nat}(f:n<bF L){H0:Hp}{Q:pS}{q:pH}(d:iE H0 v L)(e:zZ H0 cb v)(r:∀ w H,Ac 2 tC H0 H w (vH (fK L n 0) (nS (bF L)))->Ok (q w H) Q):∀(k i:Nat) (w:AV) (H:Hp),i<=nS (bF L)->3-i<k->Ac 2 tC H0 H w (vH (fK L n 0) i) -> Ok (qx8 (C j) q (iN n) (.ptr cb 0) k w (iN i) H) Q
 |0,i,_,_,_,h,_=>om
 |k+1,i,w,H,hi,hk,hw=>by
  show Ok (q7d (C j) _ _ _ (qx8 (C j) _ _ _ k) _ _ H) Q;unfold q7d;have J:bF L<=12:=lO3 _ _;have g:n<L.length:=af f (lUL _ _);have K:nS (bF L)<=3:=lUL _ _;have x:=(e.fm hw.fm).is;simp(disch:=omega)only[go_sem,x];refine Ok.ve (qlg b (k:=j) om (d.fm hw.fm)) ?_;rintro _ O ⟨rfl,A⟩;have a:=hw.no A;by_cases c:i<nS (bF L)
  ·have l:4*i<bF L:=by unfold nS at c;omega
   have s:i<3:=om;simp only[go_sem,l,s];unfold zmj;have y:=(e.fm a.fm).is;simp only[go_sem,y];refine Ok.ve (q81 b (k:=j) om (d.fm a.fm) g) ?_;rintro _ t ⟨rfl,B⟩;have m:=a.no B;have M:rg 0 (i+1)=rg 0 i++[i]:=qla (lEV _);by_cases u:fK L n 0 / 2 ^ i%2=1
   ·simp(disch:=omega)only[go_sem,u];refine Ok.ve (qn5 b (k:=j) om i om t) ?_;rintro _ D ⟨rfl,E⟩;have o:=m.no E;unfold SS.v;simp(disch:=omega)only[go_sem,seval];have N:=q7v (fK L n 0) i;refine Ok.ve ((o.no ((Fm.refl No D).push (aB 0 (tC ⟨dK i,sE⟩)))).add ⟨dK i,sE⟩ 32 rfl om om) ?_;intro F G I;unfold qya;simp(disch:=omega)only[go_sem];refine qhr b p f d e r k (i+1) F G om om ?_;have:vH (fK L n 0) (i+1)=vH (fK L n 0) i++[⟨dK i,sE⟩]:=by
     unfold vH;simp_all
    simp_all
   ·simp(disch:=go_size)only[go_sem,rB,rI,rK,rL,rN,rS,r8,u];unfold qya;simp(disch:=omega)only[go_sem];refine qhr b p f d e r k (i+1) w t om om ?_;have:vH (fK L n 0) (i+1)=vH (fK L n 0) i:=by
     unfold vH;simp_all
    simp_all
  ·have z:i=nS (bF L):=om;rw[z]at a;by_cases l:4*i<bF L
   ·have s:¬ i<3:=by unfold nS at c;omega
    omega
   ·simp only[go_sem,l];simp_all
theorem zb1(b:aU C)(i:4<=k){v:AV}{L:List (List Nat)}(e:iE H v L)(g:n<bF L):Ok (C k (.f 32) [.agg [v],iN n] H) fun r H'=>Ac 2 tC H H' r (kY L n):=by
 obtain⟨j,rfl⟩:=aT i;rw[(b j).zAr];unfold zAr z7i;simp only[go_sem];unfold zmk;rw[dD];have a:zZ (aK H (aB 0 [v])) H.nx v:=⟨by(go_size),by simp(disch:=omega)only[go_sem,seval]⟩;have d:Fm No H (aK H (aB 0 [v])):=by exact kW
 have l:=Ac.one (z:=2) (f:=tC) (H0:=aK H (aB 0 [v])) ⟨sU,sE⟩ rfl (Fm.refl _ _);refine qhr b om g (e.fm d) a (fun w m c=>?_) bZ 0 _ _ (lEV _) lf l;refine(zn9 b om g ((e.fm d).fm c.fm) (a.fm c.fm) (c.trans (H0:=H) d)).mono fun r H' h=>h
theorem z3f(n a m b:Nat):gN (nC .eql).f (.str n a) (.str m b)=.val (.bool (decide (n=m/\a=b))):=by show R0.val (.bool (Nat.beq n m&&Nat.beq a b))=_;rw[beq_eq,beq_eq,Bool.decide_and]
theorem z3a(n a m b:Nat):gN (nC .neq).f (.str n a) (.str m b)=.val (.bool (!decide (n=m/\a=b))):=by show R0.val (.bool (!(Nat.beq n m&&Nat.beq a b)))=_;rw[beq_eq,beq_eq,Bool.decide_and]
theorem zre(n a:Nat):oD 64 (.str n a) (.str n a)=true:=by show(Nat.beq n n&&Nat.beq a a)=true;simp
attribute [go_sem] z3f z3a zre
theorem o8(s t:SS):(s=t)↔(s.n=t.n/\s.a=t.a):=by cases s;cases t;simp
structure ArS where
 rl:SS
 to:SS
 deriving DecidableEq
def arC(x:ArS):List AV:=[.int .u8 (.ofNat 3),x.rl.v,x.to.v,.aA]
theorem xaz(t:ArS):(arC t).length=4:=rfl
def arP(n:Nat)(neg:Bool)(t:jX)(j:Nat):Bool:=decide (t.rl=sE)&&decide (t.sp=dK (j / 4))&&ql6 n j neg
def yO(n:Nat)(neg:Bool)(k:Nat)(t:jX)(m:Nat):List ArS:=((rg 0 m).filter (arP n neg t)).map fun j=>⟨gK k,gK j⟩
def arK(L:List (List Nat))(n:Nat)(neg:Bool)(k:Nat):List ArS:=(kY L k).flatMap fun t=>yO n neg k t (bF L)
def nJ(L:List (List Nat))(n:Nat)(neg:Bool)(i:Nat):List ArS:=(rg (n / 4*4) i).flatMap (arK L n neg)
theorem q86(n:Nat)(neg:Bool)(k:Nat)(t:jX)(m:Nat):(yO n neg k t m).length<=m:=by unfold yO;rw[lET];refine lI7 (lU2 _ _) ?_;rw[qlx];omega
theorem zzs(n:Nat)(neg:Bool)(k:Nat)(t:jX)(i:Nat):yO n neg k t (i+1)=yO n neg k t i++if arP n neg t i then[⟨gK k,gK i⟩]else[]:=by unfold yO;rw[qla (lEV _),lU5,lUN];cases arP n neg t i<;>simp
theorem qcw{α β:Type}(g:α->List β)(c:Nat)(h:∀ x,(g x).length<=c):∀ l:List α,(l.flatMap g).length<=c*l.length
 | []=>g3
 |a::l=>by rw[lIQ,lEP,lEX,Nat.mul_add,lI1];have:=qcw g c h l;have:=h a;omega
theorem qdv(e:aU C){j:Nat}(D:3<=j){v:AV}{L:List (List Nat)}{n cb d:Nat}{neg:Bool}(E:n<100000)(f:d<100000){S:Nat->Prop}{H0:Hp}{Q:pS}{q:pH}(r:∀ H',Fm S H0 H'->iE H' v L)(s:∀ H',Fm S H0 H'->zZ H' cb v){ts:List jX}{tv:AV}(t:∀ H',Fm S H0 H'->Rs 2 tC H' tv ts){x:Nat}(u:x<ts.length){A:List ArS}(F:A.length<=1000000)(G:∀ w H,o7 4 arC S H0 H w (A++yO n neg d ts[x] (bF L))->Ok (q w H) Q):∀(k i:Nat) (w:AV) (H:Hp),i<=bF L->bF L-i<k->o7 4 arC S H0 H w (A++yO n neg d ts[x] i) -> Ok (qxs (C j) q (iN n) (.bool neg) (.ptr cb 0) (iN d) tv (iN x) k w (iN i) H) Q
 |0,i,_,_,_,h,_=>om
 |k+1,i,w,H,hi,hk,hw=>by
  show Ok (q6w (C j) _ _ _ _ _ _ _ (qxs (C j) _ _ _ _ _ _ _ k) _ _ H) Q;unfold q6w;have hm:bF L<=12:=lO3 _ _;have e0:=(s _ hw.fm).is;simp only[go_sem,e0];refine Ok.ve (qlg e (k:=j) om (r _ hw.fm)) ?_;rintro _ I ⟨rfl,f2⟩;have y:=hw.no f2;by_cases B:i<bF L
  ·simp only[go_sem,B];unfold zlk;have P:=t _ y.fm;obtain⟨b,o,e1,J,_,e3,e4⟩:=P.at' x u;have R:bI (I.get b) o=.val (.str ts[x].sp.n ts[x].sp.a):=e4 0 (by rw[qfx];omega);have T:bI (I.get b) (o+1)=.val (.str ts[x].rl.n ts[x].rl.a):=e4 1 (by rw[qfx];omega);have a:=zzs n neg d ts[x] i;have hlen:=q86 n neg d ts[x] i;by_cases N:ts[x].rl.n=0/\ts[x].rl.a=0
   ·have g:ts[x].rl=sE:=(o8 _ _).2 N;have zQ:=lO5 N;simp(disch:=go_size)only[go_sem,rB,rI,rK,rL,rN,rS,r8,e1,R,T,zQ];refine Ok.iR (qn5 e (k:=j) om (i / 4) om I) ?_;rintro _ K ⟨rfl,z⟩;have l:bI (K.get b) o=.val (.str ts[x].sp.n ts[x].sp.a):=by rw[z.keep J];exact R
    have m:bI (K.get b) (o+1)=.val (.str ts[x].rl.n ts[x].rl.a):=by rw[z.keep J];exact T
    have U:=y.no z;unfold SS.v;by_cases O:ts[x].sp.n=(dK (i / 4)).n/\ts[x].sp.a=(dK (i / 4)).a
    ·have p:ts[x].sp=dK (i / 4):=(o8 _ _).2 O;have V:=lO5 O;simp only[go_sem,l,m,V];refine Ok.iR (zq2 e (k:=j) om n i om om neg K) ?_;rintro _ M ⟨rfl,f4⟩;have W:bI (M.get b) o=.val (.str ts[x].sp.n ts[x].sp.a):=by rw[f4.keep (af J z.nx)];exact l
     have X:bI (M.get b) (o+1)=.val (.str ts[x].rl.n ts[x].rl.a):=by rw[f4.keep (af J z.nx)];exact m
     have Y:=U.no f4;have c:arP n neg ts[x] i=ql6 n i neg:=by unfold arP;rw[lI9 g,lI9 p];simp
     rw[c]at a;cases hf:ql6 n i neg
     ·rw[hf]at a;unfold qkt;simp(disch:=go_size)only[go_sem,rB,rI,rK,rL,rN,rS,r8];refine qdv e D E f r s t u F G k (i+1) w M om om ?_;simp_all
     ·rw[hf]at a;simp only[go_sem,W,X];refine Ok.ve (q2c e (k:=j) om d om M) ?_;rintro _ H5 ⟨rfl,f5⟩;refine Ok.ve (q2c e (k:=j) om i om H5) ?_;rintro _ H6 ⟨rfl,f6⟩;have Z:=(Y.no f5).no f6;unfold SS.v;simp(disch:=omega)only[go_sem,seval];have hll:(A++yO n neg d ts[x] i).length<=1000000+i:=by rw[lEP];omega
      refine Ok.ve ((Z.no ((Fm.refl No H6).push (aB 0 (arC ⟨gK d,gK i⟩)))).add ⟨gK d,gK i⟩ 64 rfl om om) ?_;intro w7 H7 hw7;unfold qkt;simp(disch:=go_size)only[go_sem,rB,rI,rK,rL,rN,rS,r8];refine qdv e D E f r s t u F G k (i+1) w7 H7 om om ?_;simp_all
    ·have p:¬ ts[x].sp=dK (i / 4):=fun h=>O ((o8 _ _).1 h);have c:arP n neg ts[x] i=false:=by unfold arP;rw[lIF p];simp
     rw[c]at a;simp only[go_sem,l,m,O];unfold qkt;simp(disch:=go_size)only[go_sem,rB,rI,rK,rL,rN,rS,r8];refine qdv e D E f r s t u F G k (i+1) w K om om ?_;simp_all
   ·have g:¬ ts[x].rl=sE:=fun h=>N ((o8 _ _).1 h);have c:arP n neg ts[x] i=false:=by unfold arP;rw[lIF g];simp
    rw[c]at a;simp only[go_sem,e1,R,T,N];unfold qkt;simp(disch:=go_size)only[go_sem,rB,rI,rK,rL,rN,rS,r8];refine qdv e D E f r s t u F G k (i+1) w I om om ?_;simp_all
  ·have he:i=bF L:=om;simp only[go_sem,B];simp_all
theorem zen(L:List (List Nat))(n:Nat):0<(kY L n).length:=by unfold kY vH;simp
theorem qgk(L:List (List Nat))(n:Nat):(kY L n).length<=5:=by unfold kY;have:=q7v (fK L n 0) (nS (bF L));have a:nS (bF L)<=3:=lUL _ _;split<;>simp<;>omega
theorem qsi(l:aU C){j:Nat}(m:3<=j){v:AV}{L:List (List Nat)}{n cb b:Nat}{neg:Bool}(o:n<100000)(c:b<100000){S:Nat->Prop}{H0:Hp}{Q:pS}{q:pH}(p:∀ H',Fm S H0 H'->iE H' v L)(r:∀ H',Fm S H0 H'->zZ H' cb v){ts:List jX}{tv:AV}(e:∀ H',Fm S H0 H'->Rs 2 tC H' tv ts)(f:ts.length<=5){A:List ArS}(u:A.length<=900000)(x:∀ w H,o7 4 arC S H0 H w (A++ts.flatMap fun t=>yO n neg b t (bF L))->Ok (q w H) Q):∀(k i:Nat) (w:AV) (H:Hp),i<=ts.length->ts.length-i<k->o7 4 arC S H0 H w (A++(ts.take i).flatMap fun t=>yO n neg b t (bF L)) -> Ok (qqb (C j) q (iN n) (.bool neg) (.ptr cb 0) (iN b) tv k w (iN i) H) Q
 |0,i,_,_,_,h,_=>om
 |k+1,i,w,H,hi,hk,hw=>by
  show Ok (q6x (C j) _ _ _ _ _ _ (qqb (C j) _ _ _ _ _ _ k) _ _ H) Q;unfold q6x;have B:bF L<=12:=lO3 _ _;have s:=(e _ hw.fm).len;by_cases a:i<ts.length
  ·simp only[go_sem,s,a];unfold zlj zll;rw[dD];have d:(A++(ts.take i).flatMap fun t=>yO n neg b t (bF L)).length<=1000000:=by
    rw[lEP];have D:=qcw (fun t=>yO n neg b t (bF L)) 12 (fun t=>lI7 (q86 n neg b t _) B) (ts.take i);have E:(ts.take i).length<=5:=by rw[lI6];omega
    omega
   refine qdv l m o c p r e a d (fun y z g=>?_) bZ 0 w H (lEV _) lf ?_
   ·unfold q6u;simp(disch:=omega)only[go_sem];refine qsi l m o c p r e f u x k (i+1) y z om om ?_;rw[lER a,lIC,lIE,<-lI5];exact g
   ·have:yO n neg b ts[i] 0=[]:=by unfold yO;rw[qy1];rfl
    simp_all
  ·have F:i=ts.length:=om;simp only[go_sem,s,a];simp_all
theorem zzq(L:List (List Nat))(n:Nat)(neg:Bool)(i:Nat)(h:i<=12):(nJ L n neg i).length<=60*12:=by unfold nJ;have a:bF L<=12:=lO3 _ _;have b:=qcw (arK L n neg) 60 (fun k=>by unfold arK;have b:=qcw (fun t=>yO n neg k t (bF L)) 12 (fun t=>lI7 (q86 n neg k t _) a) (kY L k);have c:=qgk L k;omega) (rg (n / 4*4) i);have c:=qlx (n / 4*4) i;omega
theorem qwe(l:aU C){j:Nat}(x:4<=j){v:AV}{L:List (List Nat)}{n cb:Nat}{neg:Bool}(t:n<100000){H1:Hp}{Q:pS}{q:pH}(m:iE H1 v L)(o:zZ H1 cb v)(p:∀ w H,Ac 4 arC H1 H w (nJ L n neg (min (bF L) (n / 4*4+4)))->Ok (q w H) Q):∀(k i:Nat) (w:AV) (H:Hp),n / 4*4<=i->i<=max (min (bF L) (n / 4*4+4)) (n / 4*4)->n / 4*4+4-i<k->Ac 4 arC H1 H w (nJ L n neg i) -> Ok (qqc (C j) q (iN n) (.bool neg) (.ptr cb 0) k w (iN i) H) Q
 |0,i,_,_,_,_,h,_=>om
 |k+1,i,w,H,hi,hi2,hk,hw=>by
  show Ok (q6y (C j) _ _ _ _ (qqc (C j) _ _ _ _ k) _ _ H) Q;unfold q6y;have K:bF L<=12:=lO3 _ _;have B:=(o.fm hw.fm).is;simp only[go_sem,B];refine Ok.ve (qlg l (k:=j) om (m.fm hw.fm)) ?_;rintro _ u ⟨rfl,I⟩;have a:=hw.no I;by_cases g:i<bF L/\i<n / 4*4+4
  ·obtain⟨d,e⟩:=g;simp(disch:=omega)only[go_sem,d,e];unfold zli;have D:=(o.fm a.fm).is;simp only[go_sem,seval,D];refine Ok.ve (zb1 l (k:=j) om (m.fm a.fm) d) ?_;intro tv J s;have c:=a.no s.fm;unfold zlm;rw[dD];have E:=zzq L n neg i om;have F:∀ b,In tv b->¬ In w b:=fun b d e=>by
    have:=s.nw b d;have:=a.gl.lt e;omega
   refine qsi (A:=nJ L n neg i) (S:=In w) l om t om (fun H' f=>m.fm (c.old f)) (fun H' f=>o.fm (c.old f)) (fun H' f=>(s.rs qfx).dJ f F) (qgk L i) om (fun y z r=>?_) bZ 0 w J (lEV _) (by have:=qgk L i;rw[yR];omega) ?_
   ·unfold q6v;simp(disch:=omega)only[go_sem];refine qwe l x t m o p k (i+1) y z om om om ?_;have:nJ L n neg (i+1)=nJ L n neg i++arK L n neg i:=by
     unfold nJ;rw[qla hi,lIC,lIE]
    rw[this];exact c.fin r
   ·rw[lX1,List.flatMap_nil,lIM];exact c.start
  ·have G:rg (n / 4*4) i=rg (n / 4*4) (min (bF L) (n / 4*4+4)):=by
    by_cases h:n / 4*4<=min (bF L) (n / 4*4+4)
    ·congr 1;omega
    ·unfold rg;rw[lO0 g2,lO0 g2]
   unfold nJ at a;rw[G]at a;by_cases d:i<bF L
   ·have e:¬ i<n / 4*4+4:=fun h=>g ⟨d,h⟩;simp(disch:=omega)only[go_sem,d,e];exact p w u a
   ·simp only[go_sem,d];exact p w u a
def lU(L:List (List Nat))(n:Nat)(neg:Bool):List ArS:=nJ L n neg (min (bF L) (n / 4*4+4))
def aOS(neg:Bool):AV:=if neg then ruV 2 (gK 0) sE .aA else ruV 1 sE sE .aA
def aE8(L:List (List Nat))(n c:Nat)(neg:Bool):AV:=
 if(lU L n neg).length=0 then aOS neg else ruV 3 ((lU L n neg).getD (c%(lU L n neg).length) ⟨sE,sE⟩).rl ((lU L n neg).getD (c%(lU L n neg).length) ⟨sE,sE⟩).to .aA
theorem zzp(f:aU C)(t:6<=k){v:AV}{L:List (List Nat)}{n c:Nat}(u:iE H v L)(x:n<100000)(D:c<256):Ok (C k (.f 69) [.agg [v],iN n,.int .u8 (.ofNat c),.bool neg] H) fun r H'=>r=aE8 L n c neg/\Fm No H H':=by
 obtain⟨j,rfl⟩:=aT t;rw[(f j).zBg];unfold zBg z6t;simp(disch:=omega)only[go_sem];unfold zln;rw[dD];have h:Fm No H (aK (aK H (aB 0 [v])) (aB 0 [.int .u8 (.ofNat 0),.str 0 0,.str 0 0,.aA])):=by exact xE
 have i:Fm No (aK H (aB 0 [v])) (aK (aK H (aB 0 [v])) (aB 0 [.int .u8 (.ofNat 0),.str 0 0,.str 0 0,.aA])):=by exact kW
 have l:zZ (aK H (aB 0 [v])) H.nx v:=⟨gx,by simp(disch:=omega)only[go_sem]⟩;refine qwe f om x (u.fm h) (l.fm i) (fun w p g=>?_) bZ (n / 4*4) .aA _ (lEO _) om lf ?_
 ·unfold qxt;have m:=g.aX;have d:=g.fm;have y:=d.nx;simp only[np]at y;have k2:p.get (H.nx+1)=aB 0 [.int .u8 (.ofNat 0),.str 0 0,.str 0 0,.aA]:=(d.keep gx).trans (by simp(disch:=go_size)only[go_sem]);unfold aE8 lU;by_cases e:(nJ L n neg (min (bF L) (n / 4*4+4))).length=0
  ·rw[lEZ e];simp only[go_sem,m,e];refine Ok.ve (qf6 f (k:=j) om neg p) ?_;rintro _ A ⟨rfl,q⟩;have z:A.get (H.nx+1)=aB 0 [.int .u8 (.ofNat 0),.str 0 0,.str 0 0,.aA]:=(q.keep om).trans k2;cases neg<;>(unfold ruV;simp only[go_sem,seval,z];exact Ok.ret ⟨rfl,((h.trans d).trans q).aH _ _ om⟩)
  ·rw[lEU e];simp only[go_sem,m,e];unfold z1u;have a:c%(nJ L n neg (min (bF L) (n / 4*4+4))).length<(nJ L n neg (min (bF L) (n / 4*4+4))).length:=lOK _ om;obtain⟨b,o,B,E,s⟩:=(g.rs xaz).atN a;unfold arC at s;simp(disch:=omega)only[go_sem,seval,m,B,s,k2];refine Ok.ret ⟨?_,(h.trans d).aH _ _ om⟩;rw[lES,gp a];rfl
 ·unfold nJ;rw[qy1];exact Ac.nil _ _ (Fm.refl _ _)
inductive Ru where
 |leaf (kind:Nat) (rl to:SS)
 |node (kind:Nat) (a b:Ru)
 deriving DecidableEq
def Ru.kind:Ru->Nat
 | .leaf k _ _=>k
 | .node k _ _=>k
def lfC(k:Nat)(rl to:SS):List AV:=[.int .u8 (.ofNat k),rl.v,to.v,.aA]
def jP(P:Nat->Prop)(H:Hp):Ru->List AV->Prop
 | .leaf k rl to,cs=>cs=lfC k rl to
 | .node k a b,cs=>∃ bl ca cb,cs=[.int .u8 (.ofNat k),sE.v,sE.v,.sl bl 0 2 2 true]/\bl<H.nx/\P bl/\H.get bl=aB 0 (ca++cb)/\jP P H a ca/\jP P H b cb
theorem jP.dJ{P S:Nat->Prop}{H H':Hp}(f:Fm S H H')(a:∀ b,P b->¬ S b):∀{r:Ru} {cs:List AV},jP P H r cs->jP P H' r cs
 | .leaf _ _ _,_,h=>h
 | .node _ _ _,_,⟨bl,ca,cb,h1,h2,h6,h3,h4,h5⟩=>⟨bl,ca,cb,h1,af h2 f.nx,h6,by rw[f.get bl h2 (a bl h6)];exact h3,jP.dJ f a h4,jP.dJ f a h5⟩
theorem jP.fm{P:Nat->Prop}(f:Fm No H H'){r:Ru}(h:jP P H r cs):jP P H' r cs:=h.dJ f fun _ _ h=>h
theorem jP.mono{P Q:Nat->Prop}{H:Hp}(a:∀ b,b<H.nx->P b->Q b):∀{r:Ru} {cs:List AV},jP P H r cs->jP Q H r cs
 | .leaf _ _ _,_,h=>h
 | .node _ _ _,_,⟨bl,ca,cb,h1,h2,h6,h3,h4,h5⟩=>⟨bl,ca,cb,h1,h2,a bl h2 h6,h3,jP.mono a h4,jP.mono a h5⟩
theorem jP.four{P:Nat->Prop}:∀{r:Ru} {cs:List AV},jP P H r cs->∃ a b c d,cs=[a,b,c,d]
 | .leaf _ _ _,_,h=>⟨_,_,_,_,h⟩
 | .node _ _ _,_,⟨_,_,_,h1,_⟩=>⟨_,_,_,_,h1⟩
def qj5(neg:Bool):Ru:=if neg then .leaf 2 (gK 0) sE else .leaf 1 sE sE
def vV(L:List (List Nat))(n c:Nat)(neg:Bool):Ru:=
 if(lU L n neg).length=0 then qj5 neg else .leaf 3 ((lU L n neg).getD (c%(lU L n neg).length) ⟨sE,sE⟩).rl ((lU L n neg).getD (c%(lU L n neg).length) ⟨sE,sE⟩).to
theorem qf7(neg:Bool):∃ k rl to,qj5 neg=.leaf k rl to/\(if neg then ruV 2 (gK 0) sE .aA else ruV 1 sE sE .aA)=.agg [.int .u8 (.ofNat k),.str rl.n rl.a,.str to.n to.a,.aA]:=by
 cases neg
 ·exact⟨1,sE,sE,rfl,rfl⟩
 ·exact⟨2,gK 0,sE,rfl,rfl⟩
theorem xeo(L:List (List Nat))(n c:Nat)(neg:Bool):∃ k rl to,vV L n c neg=.leaf k rl to/\aE8 L n c neg=.agg [.int .u8 (.ofNat k),.str rl.n rl.a,.str to.n to.a,.aA]:=by
 unfold vV aE8;by_cases h:(lU L n neg).length=0
 ·rw[lEZ h,lEZ h];exact qf7 neg
 ·rw[lEU h,lEU h];exact⟨_,_,_,rfl,rfl⟩
def aAZ(L:List (List Nat))(n c:Nat)(neg:Bool):Ru:=.leaf 2 ((cmpL (bF L) n neg).getD (c%(cmpL (bF L) n neg).length) sE) sE
def vN(n c:Nat):Nat:=if c%8=6 then 5 else if c%8=7/\0<lvl n then 6 else 4
def fM(L:List (List Nat))(n:Nat):Nat->Nat->Bool->Ru×Nat
 |0,i,neg=>(qj5 neg,i)
 |d+1,i,neg=>
  if(L.getD n []).length<=i\/12<=i then(qj5 neg,i)else
  if fK L n i%8<2 then(qj5 neg,i+1)else
  if fK L n i%8<4 then(aAZ L n (fK L n i / 8) neg,i+1)else
  if fK L n i%8=4 then(vV L n (fK L n i / 8) neg,i+1)else
  let a:=fM L n d (i+1) neg
  let b:=fM L n d a.2 (neg||decide (vN n (fK L n i)=6))
  (.node (vN n (fK L n i)) a.1 b.1,b.2)
theorem qn9(L:List (List Nat))(n:Nat):∀(d i:Nat) (neg:Bool),i<=max i 12/\(fM L n d i neg).2<=max i 12
 |0,i,neg=>by unfold fM;omega
 |d+1,i,neg=>by
  unfold fM;split
  ·omega
  split
  ·omega
  split
  ·omega
  split
  ·omega
  have a:=(qn9 L n d (i+1) neg).2;have b:=(qn9 L n d (fM L n d (i+1) neg).2 (neg||decide (vN n (fK L n i)=6))).2;simp only;omega
def z3t(C:Nat->Ev.Call)(L:List (List Nat))(n:Nat)(v:AV)(k d:Nat):Prop:=
 ∀(i dep:Nat) (neg:Bool) (H:Hp),dep+d=7->i<1000000->iE H v L->At (bF L) n neg ->
  Ok (C k (.f 30) [.agg [v],iN n,iN i,iN dep,.bool neg] H) fun r H'=>
   ∃cs,r=.bB [.agg cs,iN ((fM L n d i neg).2)]/\jP (fun b=>H.nx<=b) H' (fM L n d i neg).1 cs/\Fm No H H'
theorem qn8{j d:Nat}{L:List (List Nat)}{v:AV}(y:z3t C L n v j d){i a kd:Nat}(W:a+d+1=7)(X:i<900000)(z:iE H v L)(I:At (bF L) n neg)(p:At (bF L) n (neg||decide (kd=6))){cb rb:Nat}(f:zZ H cb v)(J:Fm No H0 H)(K:H0.nx<=rb)(q:rb<H.nx)(M:H.get rb=aB 0 [.int .u8 (.ofNat 0),.str 0 0,.str 0 0,.aA])(N:cb<rb\/rb<cb):Ok (qhm (C j) (iN n) (iN i) (iN a) (.bool neg) (.ptr cb 0) (.ptr rb 0) (.int .u8 (.ofNat kd)) H) fun r H'=>
   ∃cs,r=.bB [.agg cs,iN ((fM L n d (fM L n d i neg).2 (neg||decide (kd=6))).2)] /\
    jP (fun b=>H0.nx<=b) H' (.node kd (fM L n d i neg).1 (fM L n d (fM L n d i neg).2 (neg||decide (kd=6))).1) cs/\Fm No H0 H':=by
 unfold qhm;have P:=f.is;simp(disch:=omega)only[go_sem,P];simp(disch:=first|go_size|omega)only[go_sem,rB,rI,rK,rL,rN,rS,r8];refine Ok.ve (y i (a+1) neg H om om z I) ?_;rintro _ H1 ⟨ca,rfl,g,k⟩;obtain⟨t,u,w,x,rfl⟩:=g.four;have Q:=(qn9 L n d i neg).2;have o:Fm No H1 ((aK H1 (aB 0 [.int .u8 (.ofNat 0),.str 0 0,.str 0 0,.aA])).put H1.nx (aB 0 [t,u,w,x])):=by exact jW
 have B:=f.fm k;have R:=B.is;have Z:=B.lt;have n1:=k.nx;cases neg<;>(
  simp(disch:=go_size)only[go_sem,rB,rI,rK,rL,rN,rS,r8,R];refine Ok.ve (y _ (a+1) _ _ om om ((z.fm k).fm o) p) ?_;rintro _ e ⟨V,rfl,l,m⟩;obtain⟨D,E,F,G,rfl⟩:=l.four;have S:=m.nx;simp only[np,nq]at S;have k2:e.get H1.nx=aB 0 [t,u,w,x]:=(m.keep gx).trans (by simp only[go_sem]);have T:e.get rb=aB 0 [.int .u8 (.ofNat 0),.str 0 0,.str 0 0,.aA]:=((k.trans (o.trans m)).keep q).trans M;simp(disch:=first|go_size|omega)only[go_sem,seval,k2,T];have s:Fm (fun b=>b=rb) e (((aK ((aK e (aB 0 [.int .u8 (.ofNat 0),.str 0 0,.str 0 0,.aA])).put e.nx (aB 0 [D,E,F,G])) (aB 0 [t,u,w,x,D,E,F,G]))).put rb (aB 0 [.int .u8 (.ofNat kd),.str 0 0,.str 0 0,.sl (e.nx+1) 0 2 2 true])):=fm;have U:=(((J.trans k).trans o).trans m).then s fun c Y h=>om;refine Ok.ret ⟨_,rfl,⟨e.nx+1,_,_,rfl,gx,om,?_,(((g.fm o).fm m).dJ s fun b A O=>om).mono fun b _ h=>om,(l.dJ s fun b A O=>by simp only[np,nq]at A;omega).mono fun b _ h=>by simp only[np,nq]at h;omega⟩,U⟩;simp(disch:=go_size)only[go_sem])
theorem z8q(z:aU C){L:List (List Nat)}{v:AV}:∀(d k:Nat),10+d<=k->z3t C L n v k d:=by
 intro d
 induction d with
 |zero=>
  intro k X i M neg H Y Z P r;obtain⟨j,rfl⟩:∃ j,k=j+1:=⟨k-1,om⟩;rw[(z j).zAp];unfold zAp zwm;have E:n<L.length:=af r.lt (lUL _ _);have p:Fm No H (aK (aK H (aB 0 [v])) (aB 0 [.int .u8 (.ofNat 0),.str 0 0,.str 0 0,.aA])):=by exact xE
  obtain⟨b,o,w,s,e2,t,Q⟩:=(P.fm p).at E;have c:=Q.len;rw[show(uQ L[n]).length=L[n].length by simp[uQ]]at c;have R:6<M:=om;have g:fM L n 0 i neg=(qj5 neg,i):=rfl;rw[g];by_cases K:L[n].length<=i
  ·simp(disch:=first|go_size|omega)only[go_sem,rB,rI,rK,rL,rN,rS,r8,s,t,c,K];refine Ok.ve (qf6 z (k:=j) om neg _) ?_;rintro _ f ⟨rfl,a⟩;obtain⟨G,I,J,c,m⟩:=qf7 neg;rw[m];have l:f.get (H.nx+1)=aB 0 [.int .u8 (.ofNat 0),.str 0 0,.str 0 0,.aA]:=(a.keep gz).trans g5;have A:=a.nx;simp only[go_sem,seval,l];exact Ok.ret ⟨_,rfl,by rw[c];rfl,(p.trans a).aH _ _ om⟩
  ·by_cases N:12<=i
   ·simp(disch:=first|go_size|omega)only[go_sem,rB,rI,rK,rL,rN,rS,r8,s,t,c,K,N];refine Ok.ve (qf6 z (k:=j) om neg _) ?_;rintro _ f ⟨rfl,a⟩;obtain⟨G,I,J,c,m⟩:=qf7 neg;rw[m];have l:f.get (H.nx+1)=aB 0 [.int .u8 (.ofNat 0),.str 0 0,.str 0 0,.aA]:=(a.keep gz).trans g5;have A:=a.nx;simp only[go_sem,seval,l];exact Ok.ret ⟨_,rfl,by rw[c];rfl,(p.trans a).aH _ _ om⟩
   ·simp(disch:=first|go_size|omega)only[go_sem,rB,rI,rK,rL,rN,rS,r8,s,t,c,K,N,R];refine Ok.ve (qf6 z (k:=j) om neg _) ?_;rintro _ f ⟨rfl,a⟩;obtain⟨G,I,J,c,m⟩:=qf7 neg;rw[m];have l:f.get (H.nx+1)=aB 0 [.int .u8 (.ofNat 0),.str 0 0,.str 0 0,.aA]:=(a.keep gz).trans g5;have A:=a.nx;simp only[go_sem,seval,l];exact Ok.ret ⟨_,rfl,by rw[c];rfl,(p.trans a).aH _ _ om⟩
 |succ d ih=>
  intro k X i M neg H Y Z P r;obtain⟨j,rfl⟩:∃ j,k=j+1:=⟨k-1,om⟩;rw[(z j).zAp];unfold zAp zwm;have E:n<L.length:=af r.lt (lUL _ _);have V:n<12:=af r.lt r.le;have p:Fm No H (aK (aK H (aB 0 [v])) (aB 0 [.int .u8 (.ofNat 0),.str 0 0,.str 0 0,.aA])):=by exact xE
  have q:=P.fm p;have u:zZ (aK (aK H (aB 0 [v])) (aB 0 [.int .u8 (.ofNat 0),.str 0 0,.str 0 0,.aA])) H.nx v:=⟨g1,g6⟩;have F:(aK (aK H (aB 0 [v])) (aB 0 [.int .u8 (.ofNat 0),.str 0 0,.str 0 0,.aA])).get (H.nx+1)=aB 0 [.int .u8 (.ofNat 0),.str 0 0,.str 0 0,.aA]:=g5;obtain⟨b,o,w,s,e2,t,Q⟩:=q.at E;have c:=Q.len;rw[show(uQ L[n]).length=L[n].length by simp[uQ]]at c;have e:L.getD n []=L[n]:=by rw[lES,gp E];rfl
  have R:¬ 6<M:=om;by_cases D:L[n].length<=i\/12<=i
  ·have g:fM L n (d+1) i neg=(qj5 neg,i):=by unfold fM;rw[e,lEZ D]
   rw[g];by_cases K:L[n].length<=i
   ·simp(disch:=first|go_size|omega)only[go_sem,rB,rI,rK,rL,rN,rS,r8,s,t,c,K];refine Ok.ve (qf6 z (k:=j) om neg _) ?_;rintro _ f ⟨rfl,a⟩;obtain⟨G,I,J,c,m⟩:=qf7 neg;rw[m];have l:f.get (H.nx+1)=aB 0 [.int .u8 (.ofNat 0),.str 0 0,.str 0 0,.aA]:=(a.keep gz).trans g5;have A:=a.nx;simp only[go_sem,seval,l];exact Ok.ret ⟨_,rfl,by rw[c];rfl,(p.trans a).aH _ _ om⟩
   ·have N:12<=i:=om;simp(disch:=first|go_size|omega)only[go_sem,rB,rI,rK,rL,rN,rS,r8,s,t,c,K,N];refine Ok.ve (qf6 z (k:=j) om neg _) ?_;rintro _ f ⟨rfl,a⟩;obtain⟨G,I,J,c,m⟩:=qf7 neg;rw[m];have l:f.get (H.nx+1)=aB 0 [.int .u8 (.ofNat 0),.str 0 0,.str 0 0,.aA]:=(a.keep gz).trans g5;have A:=a.nx;simp only[go_sem,seval,l];exact Ok.ret ⟨_,rfl,by rw[c];rfl,(p.trans a).aH _ _ om⟩
  ·have K:¬ L[n].length<=i:=om;have N:¬ 12<=i:=om;have S:i<L[n].length:=om;obtain⟨b1,o1,g1,g2,g3⟩:=Q.at' i (by simp[uQ];omega);have T:(uQ L[n])[i]'(by simp[uQ];omega)=.int .u8 (.ofNat (fK L n i)):=by
    unfold fK;rw[e,lES,gp S];simp[uQ]
   rw[T]at g3;have hc:=zd4 P n i;simp(disch:=first|go_size|omega)only[go_sem,rB,rI,rK,rL,rN,rS,r8,s,t,c,K,N,R];unfold zmm;have W:fK L n i%8=0\/fK L n i%8=1\/fK L n i%8=2\/fK L n i%8=3\/fK L n i%8=4\/fK L n i%8=5\/fK L n i%8=6\/fK L n i%8=7:=om;rcases W with h|h|h|h|h|h|h|h
   ·have g:fM L n (d+1) i neg=(qj5 neg,i+1):=by unfold fM;rw[e,lEU D,lEZ om]
    rw[g];simp(disch:=first|omega|exact ti rfl|simp only[np,nq];first|done|omega)only[go_sem,rB,rI,rK,rL,rN,rS,r8,s,t,g1,g3,h];unfold qdp;refine Ok.ve (qf6 z (k:=j) om neg _) ?_;rintro _ f ⟨rfl,a⟩;obtain⟨G,I,J,c,m⟩:=qf7 neg;rw[m];have l:f.get (H.nx+1)=aB 0 [.int .u8 (.ofNat 0),.str 0 0,.str 0 0,.aA]:=(a.keep gz).trans g5;have A:=a.nx;simp(disch:=go_size)only[go_sem,rB,rI,rK,rL,rN,rS,r8,l];exact Ok.ret ⟨_,rfl,by rw[c];rfl,(p.trans a).aH _ _ om⟩
   ·have g:fM L n (d+1) i neg=(qj5 neg,i+1):=by unfold fM;rw[e,lEU D,lEZ om]
    rw[g];simp(disch:=first|omega|exact ti rfl|simp only[np,nq];first|done|omega)only[go_sem,rB,rI,rK,rL,rN,rS,r8,s,t,g1,g3,h];unfold qdp;refine Ok.ve (qf6 z (k:=j) om neg _) ?_;rintro _ f ⟨rfl,a⟩;obtain⟨G,I,J,c,m⟩:=qf7 neg;rw[m];have l:f.get (H.nx+1)=aB 0 [.int .u8 (.ofNat 0),.str 0 0,.str 0 0,.aA]:=(a.keep gz).trans g5;have A:=a.nx;simp only[go_sem,seval,l];exact Ok.ret ⟨_,rfl,by rw[c];rfl,(p.trans a).aH _ _ om⟩
   ·have g:fM L n (d+1) i neg=(aAZ L n (fK L n i / 8) neg,i+1):=by unfold fM;rw[e,lEU D,lEU om,lEZ om]
    rw[g];simp(disch:=first|omega|exact ti rfl|simp only[np,nq];first|done|omega)only[go_sem,rB,rI,rK,rL,rN,rS,r8,s,t,g1,g3,h];unfold qdp;unfold qev;have O:=u.is;simp(disch:=go_size)only[go_sem,rB,rI,rK,rL,rN,rS,r8,O];refine Ok.ve (qsd z (k:=j) om q r om) ?_;rintro _ f ⟨rfl,a⟩;obtain⟨G,I,J,c,m⟩:=(⟨2,(cmpL (bF L) n neg).getD (fK L n i / 8%(cmpL (bF L) n neg).length) sE,sE,rfl,rfl⟩:∃ k rl to,aAZ L n (fK L n i / 8) neg=.leaf k rl to/\ruV 2 ((cmpL (bF L) n neg).getD (fK L n i / 8%(cmpL (bF L) n neg).length) sE) sE .aA=.agg [.int .u8 (.ofNat k),.str rl.n rl.a,.str to.n to.a,.aA]);rw[m];have l:f.get (H.nx+1)=aB 0 [.int .u8 (.ofNat 0),.str 0 0,.str 0 0,.aA]:=(a.keep gz).trans g5;have A:=a.nx;simp only[go_sem,seval,l];exact Ok.ret ⟨_,rfl,by rw[c];rfl,(p.trans a).aH _ _ om⟩
   ·have g:fM L n (d+1) i neg=(aAZ L n (fK L n i / 8) neg,i+1):=by unfold fM;rw[e,lEU D,lEU om,lEZ om]
    rw[g];simp(disch:=first|omega|exact ti rfl|simp only[np,nq];first|done|omega)only[go_sem,rB,rI,rK,rL,rN,rS,r8,s,t,g1,g3,h];unfold qdp;unfold qev;have O:=u.is;simp(disch:=go_size)only[go_sem,rB,rI,rK,rL,rN,rS,r8,O];refine Ok.ve (qsd z (k:=j) om q r om) ?_;rintro _ f ⟨rfl,a⟩;obtain⟨G,I,J,c,m⟩:=(⟨2,(cmpL (bF L) n neg).getD (fK L n i / 8%(cmpL (bF L) n neg).length) sE,sE,rfl,rfl⟩:∃ k rl to,aAZ L n (fK L n i / 8) neg=.leaf k rl to/\ruV 2 ((cmpL (bF L) n neg).getD (fK L n i / 8%(cmpL (bF L) n neg).length) sE) sE .aA=.agg [.int .u8 (.ofNat k),.str rl.n rl.a,.str to.n to.a,.aA]);rw[m];have l:f.get (H.nx+1)=aB 0 [.int .u8 (.ofNat 0),.str 0 0,.str 0 0,.aA]:=(a.keep gz).trans g5;have A:=a.nx;simp only[go_sem,seval,l];exact Ok.ret ⟨_,rfl,by rw[c];rfl,(p.trans a).aH _ _ om⟩
   ·have g:fM L n (d+1) i neg=(vV L n (fK L n i / 8) neg,i+1):=by unfold fM;rw[e,lEU D,lEU om,lEU om,lEZ h]
    rw[g];simp(disch:=first|omega|exact ti rfl|simp only[np,nq];first|done|omega)only[go_sem,rB,rI,rK,rL,rN,rS,r8,s,t,g1,g3,h];unfold qdp;unfold qev;have O:=u.is;simp(disch:=go_size)only[go_sem,rB,rI,rK,rL,rN,rS,r8,O];refine Ok.ve (zzp z (k:=j) om q om om) ?_;rintro _ f ⟨rfl,a⟩;obtain⟨G,I,J,c,m⟩:=xeo L n (fK L n i / 8) neg;rw[m];have l:f.get (H.nx+1)=aB 0 [.int .u8 (.ofNat 0),.str 0 0,.str 0 0,.aA]:=(a.keep gz).trans g5;have A:=a.nx;simp only[go_sem,seval,l];exact Ok.ret ⟨_,rfl,by rw[c];rfl,(p.trans a).aH _ _ om⟩
   ·have x:vN n (fK L n i)=4:=by unfold vN;rw[lEU om,lEU om]
    have y:At (bF L) n (neg||decide (4=6)):=by simpa using r
    have g:fM L n (d+1) i neg=(.node 4 (fM L n d (i+1) neg).1 (fM L n d (fM L n d (i+1) neg).2 (neg||decide (4=6))).1,(fM L n d (fM L n d (i+1) neg).2 (neg||decide (4=6))).2):=by rw[fM,e,lEU D,lEU om,lEU om,lEU om,x]
    rw[g];simp(disch:=first|omega|exact ti rfl|simp only[np,nq];first|done|omega)only[go_sem,rB,rI,rK,rL,rN,rS,r8,s,t,g1,g3,h];unfold qdp;unfold qev;exact qn8 (ih j om) om om q r y u p om gx F om
   ·have x:vN n (fK L n i)=5:=by unfold vN;rw[lEZ h]
    have y:At (bF L) n (neg||decide (5=6)):=by simpa using r
    have g:fM L n (d+1) i neg=(.node 5 (fM L n d (i+1) neg).1 (fM L n d (fM L n d (i+1) neg).2 (neg||decide (5=6))).1,(fM L n d (fM L n d (i+1) neg).2 (neg||decide (5=6))).2):=by rw[fM,e,lEU D,lEU om,lEU om,lEU om,x]
    rw[g];simp(disch:=first|omega|exact ti rfl|simp only[np,nq];first|done|omega)only[go_sem,rB,rI,rK,rL,rN,rS,r8,s,t,g1,g3,h];unfold qdp;unfold qev;exact qn8 (ih j om) om om q r y u p om gx F om
   ·by_cases B:0<lvl n
    ·have x:vN n (fK L n i)=6:=by unfold vN;rw[lEU om,lEZ ⟨h,B⟩]
     have y:At (bF L) n (neg||decide (6=6)):=⟨r.lt,r.le,fun _=>B⟩;have g:fM L n (d+1) i neg=(.node 6 (fM L n d (i+1) neg).1 (fM L n d (fM L n d (i+1) neg).2 (neg||decide (6=6))).1,(fM L n d (fM L n d (i+1) neg).2 (neg||decide (6=6))).2):=by rw[fM,e,lEU D,lEU om,lEU om,lEU om,x]
     rw[g];simp(disch:=first|omega|exact ti rfl|simp only[np,nq];first|done|omega)only[go_sem,rB,rI,rK,rL,rN,rS,r8,s,t,g1,g3,h];unfold qdp;unfold qev;refine Ok.ve (qd5 z (k:=j) om n om _) ?_;rintro _ f ⟨rfl,a⟩;have U:f.get (H.nx+1)=aB 0 [.int .u8 (.ofNat 0),.str 0 0,.str 0 0,.aA]:=(a.keep gx).trans F;have A:=a.nx;simp only[np]at A;simp only[go_sem,B];exact qn8 (ih j om) om om (q.fm a) r y (u.fm a) (p.trans a) om om U om
    ·have x:vN n (fK L n i)=4:=by unfold vN;rw[lEU om,lEU (fun h=>B h.2)]
     have y:At (bF L) n (neg||decide (4=6)):=by simpa using r
     have g:fM L n (d+1) i neg=(.node 4 (fM L n d (i+1) neg).1 (fM L n d (fM L n d (i+1) neg).2 (neg||decide (4=6))).1,(fM L n d (fM L n d (i+1) neg).2 (neg||decide (4=6))).2):=by rw[fM,e,lEU D,lEU om,lEU om,lEU om,x]
     rw[g];simp(disch:=first|omega|exact ti rfl|simp only[np,nq];first|done|omega)only[go_sem,rB,rI,rK,rL,rN,rS,r8,s,t,g1,g3,h];unfold qdp;unfold qev;refine Ok.ve (qd5 z (k:=j) om n om _) ?_;rintro _ f ⟨rfl,a⟩;have U:f.get (H.nx+1)=aB 0 [.int .u8 (.ofNat 0),.str 0 0,.str 0 0,.aA]:=(a.keep gx).trans F;have A:=a.nx;simp only[np]at A;simp only[go_sem,B];exact qn8 (ih j om) om om (q.fm a) r y (u.fm a) (p.trans a) om om U om
theorem jP.flat{P:Nat->Prop}:∀{r:Ru} {cs:List AV},jP P H r cs->cs.all rH=true
 | .leaf _ _ _,_,h=>by rw[show _=_ from h];rfl
 | .node _ _ _,_,⟨_,_,_,h1,_⟩=>by rw[h1];rfl
structure Nd where
 k:Nat
 rl:SS
 to:SS
 neg:Bool
 deriving DecidableEq
def lH(x:Nd×AV):List AV:=[.int .u8 (.ofNat x.1.k),x.1.rl.v,x.1.to.v,x.2,.bool x.1.neg]
theorem qce(x:Nd×AV):(lH x).length=5:=rfl
def Ru.nodes:Ru->Bool->List Nd
 | .leaf k rl to,neg=>[⟨k,rl,to,neg⟩]
 | .node k a b,neg=>⟨k,sE,sE,neg⟩::(a.nodes neg++b.nodes (neg||decide (k=6)))
def Ru.size:Ru->Nat
 | .leaf _ _ _=>1
 | .node _ a b=>a.size+b.size+1
def Ru.depth:Ru->Nat
 | .leaf _ _ _=>1
 | .node _ a b=>max a.depth b.depth+1
theorem qbx:∀(r:Ru) (neg:Bool),(r.nodes neg).length=r.size
 | .leaf _ _ _,_=>rfl
 | .node _ a b,neg=>by unfold Ru.nodes Ru.size;rw[lEX,lEP,qbx a,qbx b]
theorem zo0(L:List AV)(o i:Nat)(x:AV)(h:o+i<L.length):(aY L (o+i) [x]).drop o=aY (L.drop o) i [x]:=by unfold aY;simp only[lEX,lIT,lEW,lI5];rw[lO4 g2,List.drop_take,lOF,lXE];congr 3
theorem Gl.set1{v:AV}(h:Gl z H v n l)(c:i<n)(s:j<z)(x:AV):∃b o H',aG z v (iN i)=.val (.ptr b o)/\storeAt H b (o+j) [x] .undef=.ok .undef H'/\Gl z H' v n (aY l (i*z+j) [x])/\Fm (In v) H H'/\H'.nx=H.nx:=by
 have a:=h.len;rcases h.is with⟨rfl,rfl⟩|⟨b,o,e,q,L,rfl,k,m,f,p,r⟩
 ·omega
 ·have t:i*z+z<=n*z:=by
   have:(i+1)*z<=n*z:=lO9 z c;rw[lOS,lUB]at this;exact this
  have u:o+n*z=L.length:=by rw[<-f,lIZ]at a;omega
  have d:o+i*z+j+[x].length<=L.length:=g2;have g:i*z+j+[x].length<=l.length:=by rw[a];simp;omega
  refine⟨b,o+i*z,_,uY _ _ _ _ _ _ _ _ c,qb5 H b _ [x] _ q L k d,⟨?_,.inr ⟨b,o,e,q,_,rfl,dL _ _ _,?_,?_,p,r⟩⟩,(Fm.refl _ _).put b _ fun _=>⟨_,_,_,_,rfl⟩,rfl⟩
  ·rw[qey _ _ _ g,a]
  ·rw[qey _ _ _ d];exact m
  ·rw[lIP,zo0 _ _ _ _ om,f]
theorem zp4(a:AV):∀(l:List (Nd×AV)) (i:Nat) (h:i<l.length),aY (l.flatMap lH) (i*5+3) [a]=(l.set i (l[i].1,a)).flatMap lH
 | [],_,h=>by simp at h
 |x::l,0,_=>by simp[aY,lH]
 |x::l,i+1,h=>by
  have:=zp4 a l i (by simpa using h);rw[lXN,lIQ,lIQ,List.getElem_cons_succ,<-this];unfold aY;have e:(i+1)*5+3=(lH x).length+(i*5+3):=by rw[qce];omega
  rw[e,lOU,lI5,lI5];congr 1;rw[lI5];congr 2;rw[lIP,lOV]
theorem o7.comp{α:Type}{f:α->List AV}{v e:AV}{l g:List α}(h:o7 z f S H0 H v l)(d:o7 z f (In v) H H' e g):o7 z f S H0 H' e g:=
 ⟨d.gl,h.fm.then d.fm fun c k i=>by
  rcases h.nw c i with a|a
  ·exact a
  ·omega,fun b j=>by
  rcases d.nw b j with a|a
  ·exact h.nw b a
  ·exact .inr (lI7 h.fm.nx a)⟩
def zst(C:Nat->Ev.Call)(r:Ru)(k:Nat):Prop:=
 ∀(v:AV) (neg:Bool) (H:Hp) {l:List (Nd×AV)} {cs:List AV} {P:Nat->Prop},Gl 5 H v l.length (l.flatMap lH)->jP P H r cs->(∀b,P b->¬ In v b)->l.length+r.size<=1000000 ->
  Ok (C k (.f 43) [v,.agg cs,.bool neg] H) fun w H'=>∃ l',o7 5 lH (In v) H H' w l'/\l'.map Prod.fst=l.map Prod.fst++r.nodes neg
theorem q75{l:List (Nd×AV)}(h:i<l.length)(x:AV):(l.set i (l[i].1,x)).map Prod.fst=l.map Prod.fst:=by
 refine lXX g3 fun j a b=>?_;simp only[lUT,lXY];split
 ·subst_vars;rfl
 ·rfl
theorem q21{w:AV}{l:List (Nd×AV)}(h:o7 5 lH S H0 H w l)(a:i<l.length){x:AV}(p:x=.aA\/∃ b o n m e,x=.sl b o n m e):Ok (qqe O w (iN i) x H) fun r H'=>∃ d,o7 5 lH S H0 H' r d/\d.map Prod.fst=l.map Prod.fst:=by
 obtain⟨b,o,H',s,t,g,f,nx⟩:=h.gl.set1 a (j:=3) om x;unfold qqe;rw[zp4 x l i a]at g;refine Ok.mono (Q:=fun r q=>r=w/\q=H') ?_ ?_
 ·rcases p with rfl|⟨_,_,_,_,_,rfl⟩<;>(simp only[go_sem,s,t];exact Ok.ret ⟨rfl,rfl⟩)
 ·rintro _ _ ⟨rfl,rfl⟩;exact⟨_,⟨by rw[lO1];exact g,h.fm.then f fun c u a=>by
   rcases h.nw c a with k|k
   ·exact k
   ·omega,h.nw⟩,q75 a x⟩
theorem qvq{r:Ru}(hR:zst C r j){g:AV->AV->pH}{Q:pS}{w x:AV}{l:List (Nd×AV)}{xs ca cb cc:List AV}{f bl kd t:Nat}{P:Nat->Prop}(G:Gl 5 H w l.length (l.flatMap lH))(hx:Gl 1 H x t xs)(ht:t<2)(J:l.length+r.size<=1000000)(ha:f<H.nx)(c:bl<H.nx)(ka:H.get f=aB 0 [.int .u8 (.ofNat kd),sE.v,sE.v,.sl bl 0 2 2 true])(kb:H.get bl=aB 0 (ca++cb))(K:iF (aB 0 (ca++cb)) (t*4) 4=some cc)(u:jP P H r cc)(d1:∀ b,In x b->¬ In w b)(p:¬ In w f/\¬ In x f)(q:¬ In w bl/\¬ In x bl)(L:∀ b,P b->¬ In w b)(M:∀ b,P b->¬ In x b)(hg:∀(w' N:AV) (H':Hp) (z:List (Nd×AV)) (R:List AV),Gl 5 H' w' z.length (z.flatMap lH)->(∀b,In w' b->In w b\/H.nx<=b)->z.map Prod.fst=l.map Prod.fst++r.nodes (neg||(decide (kd=6)&&decide (t=1))) -> Fm (fun b=>In w b\/In x b) H H'->Gl 1 H' N (t+1) R->(∀b,In N b->H.nx<=b/\¬ In w' b)->Ok (g w' N (iN ((t+1))) H') Q):Ok (qxx (C j) g w (.bool neg) (.ptr f 0) x (iN t) H) Q:=by
 unfold qxx;have S:=G.aX;simp(disch:=go_size)only[go_sem,rB,rI,rK,rL,rN,rS,r8,S];have fp:Fm No H (aK H (aB 0 [iN (l.length)])):=by exact kW
 obtain⟨o,e2,g2,q2,f2,n2⟩:=(hx.no fp).append (k:=1) (w:=8) (x:=[iN (l.length)]) om rfl om om;simp only[np]at n2;refine Ok.veE e2 ?_;have I:Fm (In x) H o:=(fp.mono (T:=In x) (fun _ _ h=>absurd h id)).then f2 fun _ _ h=>h;have V:∀ b,b<H.nx->¬ In x b->o.get b=H.get b:=fun b c v=>I.get b c v;have i:o.get f=aB 0 [.int .u8 (.ofNat kd),sE.v,sE.v,.sl bl 0 2 2 true]:=(V f ha p.2).trans ka;have W:o.get bl=aB 0 (ca++cb):=(V bl c q.2).trans kb;have A:iF (o.get bl) (t*4) 4=some cc:=by rw[W];exact K
 have X:=u.four;obtain⟨c0,B,D,E,hcc⟩:=X;subst hcc;have Y:Gl 5 o w l.length (l.flatMap lH):=G.keep I.nx (fun b c S=>V b S (fun v=>d1 b v c));have fin:∀(b:Bool),b=(neg||(decide (kd=6)&&decide (t=1)))->∀(m:AV) (d:Hp) (n:List (Nd×AV)),o7 5 lH (In w) o d m n->n.map Prod.fst=l.map Prod.fst++r.nodes b ->
   Ok (g m (.sl (aK H (aB 0 [iN (l.length)])).nx 0 (t+1) (t+1) false) (iN ((t+1))) d) Q:=by
  rintro _ rfl m d n a e;refine hg m _ d n _ a.gl (fun b c=>?_) e ?_ (g2.keep a.fm.nx fun b c U=>a.fm.get b U fun h=>?_) (fun b c=>⟨?_,fun h=>?_⟩)
  ·rcases a.nw b c with h|h
   ·exact .inl h
   ·omega
  ·exact(I.mono fun _ _ h=>.inr h).then a.fm fun _ _ h=>.inl h
  ·obtain⟨_,_,_,_,c⟩:=c;cases c;have:=G.lt h;simp only[np]at this;omega
  ·obtain⟨_,_,_,_,c⟩:=c;cases c;simp only[np];omega
  ·obtain⟨_,_,_,_,c⟩:=c;cases c;simp only[np]at h;rcases a.nw _ h with h|h
   ·have:=G.lt h;omega
   ·omega
 have O:∀ b:Bool,Ok (C j (.f 43) [w,.agg [c0,B,D,E],.bool b] o) fun w' H'=>∃ z,o7 5 lH (In w) o H' w' z/\z.map Prod.fst=l.map Prod.fst++r.nodes b:=fun b=>hR w b o Y (u.dJ I M) L J;have y:oD 64 (.agg [c0,B,D,E]) (.agg [c0,B,D,E])=true:=by have Z:=u.flat;refine qgc _ ?_;rw[Z];rfl
 cases neg
 ·by_cases h6:kd=6
  ·subst h6;simp(disch:=omega)only[go_sem,i,A];refine Ok.iR (O (decide (t=1))) ?_;rintro m d ⟨n,a,e⟩;have s:=a.fm;have F:d.get f=aB 0 [.int .u8 (.ofNat 6),.str 0 0,.str 0 0,.sl bl 0 2 2 true]:=(s.get f om p.1).trans i;have r3:iF (d.get bl) (t*4) 4=some [c0,B,D,E]:=by rw[s.get bl om q.1];exact A
   have ec:=y;unfold qhk;simp(disch:=omega)only[go_sem];exact fin (decide (t=1)) g3 m d n a e
  ·simp(disch:=omega)only[go_sem,i,A,h6];refine Ok.iR (O false) ?_;rintro m d ⟨n,a,e⟩;have s:=a.fm;have F:d.get f=aB 0 [.int .u8 (.ofNat kd),.str 0 0,.str 0 0,.sl bl 0 2 2 true]:=(s.get f om p.1).trans i;have r3:iF (d.get bl) (t*4) 4=some [c0,B,D,E]:=by rw[s.get bl om q.1];exact A
   have ec:=y;unfold qhk;simp(disch:=omega)only[go_sem];exact fin false (by simp[h6]) m d n a e
 ·simp(disch:=omega)only[go_sem,i,A];refine Ok.iR (O true) ?_;rintro m d ⟨n,a,e⟩;have s:=a.fm;have F:d.get f=aB 0 [.int .u8 (.ofNat kd),.str 0 0,.str 0 0,.sl bl 0 2 2 true]:=(s.get f om p.1).trans i;have r3:iF (d.get bl) (t*4) 4=some [c0,B,D,E]:=by rw[s.get bl om q.1];exact A
  have ec:=y;unfold qhk;simp(disch:=omega)only[go_sem];exact fin true g3 m d n a e
theorem o7.base{α:Type}{f:α->List AV}{v:AV}{l:List α}(a:Fm No H0 H1)(h:o7 z f S H1 H v l):o7 z f S H0 H v l:=
 ⟨h.gl,(a.mono fun _ _ h=>absurd h id).then h.fm fun _ _ h=>h,fun b c=>(h.nw b c).imp id fun h=>lI7 a.nx h⟩
theorem Gl.aDh{α:Type}{f:α->List AV}{v:AV}{l:List α}(h:Gl z H v l.length (l.flatMap f))(a:Fm No H H1):o7 z f (In v) H1 H1 v l:=⟨h.no a,Fm.refl _ _,fun _ h=>.inl h⟩
theorem n15(O:Ev.Call)(q:AV->pH)(x2 a:AV)(n:Nat):qft O q x2 a (n+1)=qec O q x2 a (qft O q x2 a n):=rfl
theorem zc7(hC:aU C):∀(r:Ru) (k:Nat),r.depth<=k->zst C r k:=by
 intro r
 induction r with
 |leaf kd rl to=>
  intro k V v neg H l cs P n W o F;unfold Ru.depth at V;obtain⟨j,rfl⟩:∃ j,k=j+1:=⟨k-1,om⟩;rw[(hC j).zAz];unfold zAz zlv;obtain rfl:cs=lfC kd rl to:=W;have Q:=n.aX;unfold lfC SS.v;simp(disch:=go_size)only[go_sem,seval,Q];have A:Fm No H (aK (aK H (aB 0 [.int .u8 (.ofNat kd),.str rl.n rl.a,.str to.n to.a,.aA])) (aB 0 (lH (⟨kd,rl,to,neg⟩,.aA)))):=by exact xE
  refine Ok.ve ((n.aDh A).add (⟨kd,rl,to,neg⟩,.aA) 72 rfl om om) ?_;intro w H1 q;have B:H1.get H.nx=aB 0 [.int .u8 (.ofNat kd),.str rl.n rl.a,.str to.n to.a,.aA]:=(q.fm.get _ g1 fun h=>by have:=n.lt h;omega).trans g6;unfold qxy;obtain⟨m,X⟩:∃ m,bZ=m+1:=⟨999999,by rw[yR]⟩;rw[dD,X];rw[n15];unfold qec;simp only[go_sem,B];refine(q21 (O:=C j) q g3 (.inl rfl)).mono ?_;rintro r Y ⟨Z,f,d⟩;exact⟨Z,f.base A,by rw[d];simp[Ru.nodes]⟩
 |node kd a b iha ihb=>
  intro k V v neg H l cs P n W o F;unfold Ru.depth at V;obtain⟨j,rfl⟩:∃ j,k=j+1:=⟨k-1,om⟩;rw[(hC j).zAz];unfold zAz zlv;obtain⟨bl,ca,cb,rfl,hbl,s,kb,G,I⟩:=W;have Q:=n.aX;unfold sE SS.v;simp(disch:=go_size)only[go_sem,seval,Q];have A:Fm No H (aK (aK H (aB 0 [.int .u8 (.ofNat kd),.str 0 0,.str 0 0,.sl bl 0 2 2 true])) (aB 0 (lH (⟨kd,sE,sE,neg⟩,.aA)))):=by exact xE
  unfold Ru.size at F;refine Ok.ve ((n.aDh A).add (⟨kd,sE,sE,neg⟩,.aA) 72 rfl om om) ?_;intro w H1 q;have f1:=q.fm;have n1:=f1.nx;simp only[np]at n1;have B:H1.get H.nx=aB 0 [.int .u8 (.ofNat kd),.str 0 0,.str 0 0,.sl bl 0 2 2 true]:=(q.fm.get _ g1 fun h=>by have:=n.lt h;omega).trans g6;have L:Fm (In v) H H1:=(A.mono fun _ _ h=>absurd h id).then f1 fun _ _ h=>h;have D:H1.get bl=aB 0 (ca++cb):=(L.get bl hbl (o bl s)).trans kb;have R:jP (fun x=>P x/\x<H.nx) H1 a ca:=(G.mono fun b f d=>(⟨d,f⟩:P b/\b<H.nx)).dJ L fun b h=>o b h.1;have S:jP (fun x=>P x/\x<H.nx) H1 b cb:=(I.mono fun b f d=>(⟨d,f⟩:P b/\b<H.nx)).dJ L fun b h=>o b h.1;have M:∀ x,In w x->In v x\/H.nx+2<=x:=fun x h=>by
   rcases q.nw x h with h|h
   ·exact .inl h
   ·exact .inr (by simp only[np]at h;omega)
  have la:ca.length=4:=by obtain⟨_,_,_,_,h⟩:=G.four;rw[h];rfl
  have lb:cb.length=4:=by obtain⟨_,_,_,_,h⟩:=I.four;rw[h];rfl
  have z:∀ x,¬In AV.aA x:=fun x h=>by obtain⟨_,_,_,_,h⟩:=h;cases h
  have no:∀ x,x<H.nx+2->¬ In v x->¬ In w x:=fun x f d h=>(M x h).elim d fun h=>om;unfold qxy;obtain⟨m,X⟩:∃ m,bZ=m+3:=⟨999997,by rw[yR]⟩;rw[dD,X];rw[n15];unfold qec;simp(disch:=go_size)only[go_sem,seval,B];refine qvq (r:=a) (P:=fun x=>P x/\x<H.nx) (ca:=ca) (cb:=cb) (cc:=ca) (kd:=kd) (bl:=bl) (iha j om) q.gl (Gl.nil 1 H1) om g2 om om B D (by rw[lY4,qbv,lEZ g2,lX2,List.take_left' la]) R (fun x h=>absurd h (z x))
   ⟨no _ om (fun h=>by have:=n.lt h;omega),z _⟩ ⟨no _ om (o bl s),z _⟩ (fun x y=>no _ om (o x y.1)) (fun x _=>z x) ?_
  intro w2 x2 Y l2 xs2 hw2 u J N hx2 e;rw[n15];unfold qec;have g:∀ x,x<H1.nx->¬ In w x->¬ In w2 x:=fun x f d h=>(u x h).elim d fun h=>om;have p:¬ In w H.nx:=no _ om (fun h=>by have:=n.lt h;omega);have E:¬ In w bl:=no _ om (o bl s);have fw:∀ x,x<H1.nx->¬ In w x->Y.get x=H1.get x:=fun x f d=>N.get x f fun h=>h.elim d (z x);have n2:=N.nx;have k2:=(fw _ om p).trans B;have T:=(fw _ om E).trans D;simp only[go_sem,k2];have U:jP (fun x=>P x/\x<H.nx) Y b cb:=S.dJ N fun b h=>fun h'=>h'.elim (no _ om (o b h.1)) (z b);have l2n:l2.length=l.length+1+a.size:=by have:=congrArg List.length J;simp only[lET,lEP,lEX,lIT,qbx]at this;omega
  refine qvq (r:=b) (P:=fun x=>P x/\x<H.nx) (ca:=ca) (cb:=cb) (cc:=cb) (kd:=kd) (bl:=bl) (t:=1) (ihb j om) hw2 hx2 om om om om k2 T (by rw[lUB,qbv,lEZ g2,List.drop_left' la,<-lb,lIN]) U (fun x h=>(e x h).2)
   ⟨g _ om p,fun h=>by have:=(e _ h).1;omega⟩ ⟨g _ om E,fun h=>by have:=(e _ h).1;omega⟩ (fun x y=>g _ om (no _ om (o x y.1))) (fun x y h=>by have:=(e _ h).1;omega) ?_
  intro w3 x3 H3 l3 xs3 hw3 nw3 K f3 hx3 nx3;rw[n15];unfold qec;have k3:H3.get H.nx=aB 0 [.int .u8 (.ofNat kd),.str 0 0,.str 0 0,.sl bl 0 2 2 true]:=(f3.get _ om fun h=>h.elim (g _ om p) fun h=>by have:=(e _ h).1;omega).trans k2;simp only[go_sem,k3];have l3n:l3.length=l2.length+b.size:=by have:=congrArg List.length K;simp only[lET,lEP,qbx]at this;omega
  have hS:o7 5 lH (In v) H H3 w3 l3:=by
   refine⟨hw3,?_,?_⟩
   ·refine(L.then N fun c hc h=>?_).then f3 fun c hc h=>?_
    ·rcases h with h|h
     ·exact(M c h).elim id fun h=>om
     ·simp_all
    ·rcases h with h|h
     ·exact(u c h).elim (fun h=>(M c h).elim id fun h=>om) fun h=>om
     ·have:=(e c h).1;omega
   ·intro x y;rcases nw3 x y with h|h
    ·rcases u x h with h|h
     ·rcases M x h with h|h
      ·exact .inl h
      ·omega
     ·omega
    ·omega
  refine(q21 (O:=C j) hS (i:=l.length) om ?_).mono ?_
  ·rcases hx3.is with⟨h,_⟩|⟨_,_,_,_,_,h,_⟩
   ·exact .inl h
   ·simp_all
  ·rintro r H4 ⟨Z,f,d⟩;refine⟨Z,f,?_⟩;rw[d,K,J];simp[Ru.nodes]
def gX(kd:Nat)(s:SS)(n:Nd):Bool:=decide (n.k=kd)&&decide (n.rl=s)
def gD(r:Ru)(kd:Nat)(s:SS):Bool:=(r.nodes false).any (gX kd s)
theorem qzk{O:Ev.Call}{l:List (Nd×AV)}{v:AV}{H:Hp}{kd:Nat}{s:SS}(d:Rs 5 lH H v l)(t:l.length<=1000000){Q:pS}{q:pL}{qr:pH}(g:l.any (fun x=>gX kd s x.1)=true->Ok (qr (.bool true) H) Q)(j:l.any (fun x=>gX kd s x.1)=false->Ok (q H) Q):∀(k i:Nat),i<=l.length->l.length-i<k->(l.take i).any (fun x=>gX kd s x.1)=false -> Ok (zbo O qr q (.int .u8 (.ofNat kd)) s.v v k (iN i) H) Q
 |0,i,_,h,_=>om
 |k+1,i,hi,hk,hn=>by
  show Ok (zmi O _ _ _ _ _ (zbo O _ _ _ _ _ k) _ H) Q;unfold zmi;have u:=d.len;by_cases a:i<l.length
  ·simp only[go_sem,u,a];unfold zmh;obtain⟨b,o,r,B,_,C,z⟩:=d.at' i a;have m:bI (H.get b) o=.val (.int .u8 (.ofNat l[i].1.k)):=z 0 (by rw[qce];omega);have n:bI (H.get b) (o+1)=.val (.str l[i].1.rl.n l[i].1.rl.a):=z 1 (by rw[qce];omega);have w:(l.take (i+1)).any (fun x=>gX kd s x.1)=gX kd s l[i].1:=by
    rw[lER a,lX5,hn];simp
   unfold SS.v;by_cases e:l[i].1.k=kd
   ·have y:=lO5 e;by_cases f:l[i].1.rl.n=s.n/\l[i].1.rl.a=s.a
    ·have p:=lO5 f;have c:gX kd s l[i].1=true:=by unfold gX;rw[lI9 e,lI9 ((o8 _ _).2 f)];rfl
     simp only[go_sem,r,m,n,y,p];refine g ?_;rw[lUH];exact⟨l[i],lEQ a,c⟩
    ·have c:gX kd s l[i].1=false:=by unfold gX;rw[lIF (fun h=>f ((o8 _ _).1 h))];simp
     simp only[go_sem,r,m,n,y,f];unfold zmf;simp(disch:=go_size)only[go_sem,rB,rI,rK,rL,rN,rS,r8];exact qzk d t g j k (i+1) om om (by rw[w,c])
   ·have c:gX kd s l[i].1=false:=by unfold gX;rw[lIF e];simp
    simp only[go_sem,r,m,n,e];unfold zmf;simp(disch:=go_size)only[go_sem,rB,rI,rK,rL,rN,rS,r8];exact qzk d t g j k (i+1) om om (by rw[w,c])
  ·have A:i=l.length:=om;simp only[go_sem,u,a];rw[A,lIN]at hn;exact j hn
theorem z3e(e:aU C){r:Ru}(y:r.depth+1<=k)(z:r.size<=100000){P:Nat->Prop}(f:jP P H r cs)(kd:Nat)(s:SS):Ok (C k (.f 33) [.agg cs,.int .u8 (.ofNat kd),s.v] H) fun v H'=>v=.bool (gD r kd s)/\Fm No H H':=by
 obtain⟨j,rfl⟩:∃ j,k=j+1:=⟨k-1,om⟩;rw[(e j).zAs];unfold zAs z7g;obtain⟨c0,q,t,u,rfl⟩:=f.four;simp(disch:=omega)only[go_sem,seval];have g:Fm No H (aK H (aB 0 [c0,q,t,u])):=by exact kW
 have i:∀ x,¬In AV.aA x:=fun x h=>by obtain⟨_,_,_,_,h⟩:=h;cases h
 refine Ok.ve (zc7 e r j om .aA false _ (l:=[]) (Gl.nil 5 _) (f.fm g) (fun b _=>i b) g2) ?_;rintro w H1 ⟨l,n,o⟩;have m:Fm No H H1:=g.then n.fm fun c _ h=>absurd h (i c);have p:l.length=r.size:=by have:=congrArg List.length o;simpa [qbx] using this
 have a:gD r kd s=l.any (fun x=>gX kd s x.1):=by
  have d:l.map Prod.fst=r.nodes false:=by simpa using o
  unfold gD;rw[<-d,lXU];rfl
 unfold z16;rw[dD];refine qzk (n.gl.rs qce) om (fun h=>?_) (fun h=>?_) bZ 0 (lEV _) lf rfl
 ·exact Ok.ret ⟨by rw[a,h],m⟩
 ·unfold zmg;exact Ok.ret ⟨by rw[a,h],m⟩
structure jM where
 name:SS
 types:List jX
 rule:Ru
structure zM where
 name:SS
 bH:List jM
structure bC where
 r:jM
 tv:AV
 cs:List AV
def iK(g:bC):List AV:=[g.r.name.v,g.tv,g.cs.getD 0 .undef,g.cs.getD 1 .undef,g.cs.getD 2 .undef,g.cs.getD 3 .undef]
theorem qju(g:bC):(iK g).length=6:=rfl
structure tN(A B:Nat)(H:Hp)(rv:AV)(gs:List bC):Prop where
 gl:Gl 6 H rv gs.length (gs.flatMap iK)
 y9:∀ b,In rv b->A<=b/\b<B
 ty:∀ g∈gs,Rs 2 tC H g.tv g.r.types/\(g.tv=.aA\/∃ b o n m e,g.tv=.sl b o n m e/\n<=m/\0<n)/\∀ b,In g.tv b->A<=b/\b<B/\¬ In rv b
 ru:∀ g∈gs,jP (fun b=>A<=b/\b<B/\¬ In rv b) H g.r.rule g.cs
theorem tN.nil(A B:Nat)(H:Hp):tN A B H .aA []:=⟨Gl.nil 6 H,(fun b h=>by obtain⟨_,_,_,_,h⟩:=h;cases h),(fun g a=>by cases a),(fun g a=>by cases a)⟩
theorem tN.dJ{A B:Nat}{rv:AV}{e:List bC}(h:tN A B H rv e)(f:Fm S H H')(d:∀ b,A<=b->b<B->¬ S b):tN A B H' rv e:=
 ⟨h.gl.fm f fun b a=>d b (h.y9 b a).1 (h.y9 b a).2,h.y9,fun g c=>⟨(h.ty g c).1.dJ f fun b a=>d b ((h.ty g c).2.2 b a).1 ((h.ty g c).2.2 b a).2.1,(h.ty g c).2⟩,
  fun g c=>(h.ru g c).dJ f fun b a=>d b a.1 a.2.1⟩
theorem tN.up{A B c:Nat}{rv:AV}{d:List bC}(h:tN A B H rv d)(e:B<=c):tN A c H rv d:=
 ⟨h.gl,fun b x=>⟨(h.y9 b x).1,af (h.y9 b x).2 e⟩,fun g a=>⟨(h.ty g a).1,(h.ty g a).2.1,fun b x=>by have:=(h.ty g a).2.2 b x;exact⟨this.1,om,this.2.2⟩⟩,
  fun g a=>(h.ru g a).mono fun b _ x=>⟨x.1,om,x.2.2⟩⟩
structure aQ where
 name:SS
 gs:List bC
 rv:AV
 A:Nat
 B:Nat
def xG(g:aQ):List AV:=[g.name.v,g.rv]
theorem qee(g:aQ):(xG g).length=2:=rfl
def aQ.sp(g:aQ):zM:=⟨g.name,g.gs.map bC.r⟩
variable {g:aQ}
structure mY(H:Hp)(sv:AV)(l:List aQ):Prop where
 gl:Gl 2 H sv l.length (l.flatMap xG)
 ord:l.Pairwise fun a b=>a.B<=b.A
 rel:∀ g∈l,tN g.A g.B H g.rv g.gs/\g.B<=H.nx
 dj:∀ g∈l,∀b,In sv b->¬(g.A<=b/\b<g.B)
theorem mY.no{l:List aQ}(h:mY H sv l)(f:Fm No H H'):mY H' sv l:=
 ⟨h.gl.no f,h.ord,fun g a=>⟨(h.rel g a).1.dJ f fun _ _ _ h=>h,lI7 (h.rel g a).2 f.nx⟩,h.dj⟩
theorem mY.dJ{l:List aQ}(h:mY H sv l)(f:Fm S H H')(c:∀ b,In sv b->¬ S b)(d:∀ g∈l,∀b,g.A<=b->b<g.B->¬ S b):mY H' sv l:=
 ⟨h.gl.fm f c,h.ord,fun g a=>⟨(h.rel g a).1.dJ f (d g a),lI7 (h.rel g a).2 f.nx⟩,h.dj⟩
theorem mY.push{sv i:AV}{l:List aQ}(h:mY H sv l)(f:Fm S H H')(j:∀ g∈l,∀b,g.A<=b->b<g.B->¬ S b)(d:SS)(k:Gl 2 H' i (l.length+1) (l.flatMap xG++[d.v,.aA]))(m:∀ b,In i b->H.nx<=b):mY H' i (l++[⟨d,[],.aA,H'.nx,H'.nx⟩]):=by
 refine⟨?_,?_,?_,?_⟩
 ·rw[lEP,lIC,lIE];exact k
 ·rw[lOL];refine⟨h.ord,lU4 _ _,fun a n b e=>?_⟩;rw[lI3]at e;subst e;exact lI7 (h.rel a n).2 f.nx
 ·intro g c;rw[lEY,lI3]at c;rcases c with c|rfl
  ·exact⟨(h.rel g c).1.dJ f (j g c),lI7 (h.rel g c).2 f.nx⟩
  ·exact⟨tN.nil _ _ _,lEO _⟩
 ·intro g c b e;rw[lEY,lI3]at c;rcases c with c|rfl
  ·have:=m b e;have:=(h.rel g c).2;omega
  ·simp
def mD(L:List (List Nat))(n:Nat):jM:=⟨gK n,kY L n,(fM L n 6 2 false).1⟩
structure OfI(L:List (List Nat))(v:AV)(H0 H:Hp)(cb sb:Nat)(sv:AV)(l:List aQ)(g:aQ):Prop where
 cbk:zZ H cb v
 sbk:H.get sb=aB 0 [sv]
 sbl:H0.nx<=sb/\sb<g.A/\sb<H.nx
 cbl:cb<g.A
 ne:cb<sb\/sb<cb
 ns:¬ In sv sb/\¬ In sv cb
 vQ:∀ b,In sv b->H0.nx<=b/\b<g.A
 sbd:∀ x∈l,¬(x.A<=sb/\sb<x.B)
 m:mY H sv (l++[g])
 an:∀ x∈l++[g],H0.nx<=x.A
 ax:g.A<=H.nx
 fm:Fm No H0 H
theorem zoz(X:List AV)(a b c:AV):aY (X++[a,b]) (X.length+1) [c]=X++[a,c]:=by unfold aY;rw[lOU,lIP,lOV];simp
theorem zxm(hC:aU C)(hj:20<=j){L:List (List Nat)}{v:AV}(hn:n<bF L){cb sb:Nat}{l:List aQ}(hv:iE H0 v L)(f:OfI L v H0 H cb sb sv l g)(hl:l.length=1+n / 4)(hgs:g.gs.length<=12){G:pH}{Q:pS}(hG:∀(H':Hp) (rv':AV) (rg:bC),rg.r=mD L n->OfI L v H0 H' cb sb sv l ⟨g.name,g.gs++[rg],rv',g.A,H'.nx⟩->Ok (G (iN ((n+1))) H') Q):Ok (qk3 (C j) G (.ptr cb 0) (.ptr sb 0) (iN n) H) Q:=by
 have hm:bF L<=12:=lO3 _ _;have O:=hv.fm f.fm;rw[quy];unfold qnx;have e0:=f.cbk.is;simp only[go_sem,e0];refine Ok.ve (z8q hC 6 j om 2 1 false H om om O ⟨hn,hm,fun h=>by cases h⟩) ?_;rintro _ H1 ⟨cs,rfl,R,U⟩;obtain⟨c0,A,B,D,rfl⟩:=R.four;have n1:=U.nx;have u:=f.sbl;have s1:=(U.keep u.2.2).trans f.sbk;have r:=f.m.no U;have W:1+n / 4<(l++[g]).length:=g2;obtain⟨b,o,i1,i2,i3,i4,i5⟩:=(r.gl.rs qee).at' (1+n / 4) W;have P:(l++[g])[1+n / 4]=g:=by rw[List.getElem_append_right om];simp[hl]
 rw[P]at i4 i5;have r1:bI (H1.get b) (o+1)=.val g.rv:=i5 1 (by rw[qee];omega);have cl:=f.cbk.lt;have X:cb<H1.nx:=om;have k1:=(f.cbk.fm U).is;simp(disch:=go_size)only[go_sem,seval,s1,i1,r1,k1];have er:oD 64 g.rv g.rv=true:=by refine qP ?_ 63;rcases(r.rel g g3).1.gl.is with⟨h,_⟩|⟨_,_,_,_,_,h,_⟩<;>(rw[h];rfl)
 have ev:oD 64 (.agg [v]) (.agg [v])=true:=qgc _ (by unfold Tr;rw[lXK,O.flat];rfl);have ec:oD 64 (.agg [c0,A,B,D]) (.agg [c0,A,B,D])=true:=qgc _ (by unfold Tr;rw[R.flat];rfl);have fX:Fm No H1 ⟨((aK H1 (aB 0 [.int .u8 (.ofNat 0),.str 0 0,.str 0 0,.aA])).put H1.nx (aB 0 [c0,A,B,D])).t,H1.nx+1+17⟩:=fm;refine Ok.iR (q2c hC (k:=j) om n om _) ?_;rintro _ H3 ⟨rfl,f3⟩;have n3:H1.nx+1+17<=H3.nx:=f3.nx;have q3:H3.get H1.nx=aB 0 [c0,A,B,D]:=(f3.keep (show H1.nx<H1.nx+1+17 by omega)).trans (by simp only[go_sem]);have z:=fX.trans f3;have k3:=(z.keep X).trans k1;have r3:bI (H3.get b) (o+1)=.val g.rv:=by rw[z.keep i2];exact r1
 unfold SS.v;simp only[go_sem,seval,q3,k3,r3,er,ev,ec];refine Ok.iR (zb1 hC (k:=j) om ((O.fm U).fm z) hn) ?_;intro tv E ht;have Y:=ht.fm;have n4:=Y.nx;have q4:=(Y.keep (show H1.nx<H3.nx by omega)).trans q3;have k4:=(Y.keep om).trans k3;have r4:bI (E.get b) (o+1)=.val g.rv:=by rw[Y.keep om];exact r3
 have htl:0<(kY L n).length:=by unfold kY vH;simp
 obtain⟨tb,to,t,htv⟩:∃ tb to t,tv=.sl tb to (kY L n).length (kY L n).length t:=by
  rcases ht.gl.is with⟨_,h⟩|⟨tb,to,t,_,_,h,_⟩
  ·omega
  ·exact⟨tb,to,t,h⟩
 subst htv;simp only[go_sem,seval,q4,k4,r4,er,ev,ec];have gB:g.B<=H.nx:=(f.m.rel g g3).2;have ax:=f.ax;have fV:Fm No H1 (E.put (H1.nx+1+12) (aB 0 [.str (gK n).n (gK n).a,.sl tb to (kY L n).length (kY L n).length t,c0,A,B,D])):=(z.trans Y).aH _ _ om;have bHb:=(r.rel g g3).1.dJ fV fun _ _ _ h=>h;obtain⟨H5,e5,g5,q5,f5,n5⟩:=bHb.gl.append (k:=1) (w:=104) (x:=[.str (gK n).n (gK n).a,.sl tb to (kY L n).length (kY L n).length t,c0,A,B,D]) om rfl om om;simp only[nq]at e5 g5 q5 n5;refine Ok.tT e5 ?_;have m:∀ x,In g.rv x->g.A<=x/\x<g.B:=fun x e=>(r.rel g g3).1.y9 x e;have J:=f.vQ;have Z:Fm (In g.rv) H1 H5:=(fV.mono fun _ _ h=>absurd h id).then f5 fun _ _ h=>h;have gl5:Gl 2 H5 sv (l++[g]).length ((l++[g]).flatMap xG):=r.gl.fm Z fun x e h=>by have:=(J x e).2;have:=(m x h).1;omega
 obtain⟨b',o',s,V,e6,g6,f6,n6⟩:=gl5.set1 W (j:=1) om (.sl E.nx 0 (g.gs.length+1) (g.gs.length+1) false);rw[i1]at V;injection V with V;injection V with V i7;subst V i7;simp only[go_sem,seval,e6];rw[qu0];unfold qny;simp(disch:=omega)only[go_sem];have i:Fm (fun x=>In g.rv x\/In sv x) H1 s:=(Z.mono fun _ _ h=>.inl h).then f6 fun _ _ h=>.inr h;have n16:H1.nx<=s.nx:=i.nx;have K:∀ x,x<g.A->¬ In sv x->x<H1.nx->s.get x=H1.get x:=fun x I M N=>i.get x N fun h=>h.elim (fun h=>by have:=(m x h).1;omega) M;refine hG s (.sl E.nx 0 (g.gs.length+1) (g.gs.length+1) false) ⟨mD L n,.sl tb to (kY L n).length (kY L n).length t,[c0,A,B,D]⟩ rfl ⟨⟨om,(K cb f.cbl f.ns.2 X).trans k1⟩,(K sb u.2.1 f.ns.1 om).trans s1,⟨u.1,u.2.1,om⟩,f.cbl,f.ne,f.ns,f.vQ,f.sbd,?_,?_,by show g.A<=s.nx;omega,?_⟩
 ·have S:∀ x,In (.sl E.nx 0 (g.gs.length+1) (g.gs.length+1) false) x->x=E.nx:=fun x e=>by
   obtain⟨_,_,_,_,e⟩:=e;cases e;rfl
  refine⟨?_,?_,?_,?_⟩
  ·rw[lEP,lIC,lIE]at g6 ⊢;rw[show(1+n / 4)*2+1=(l.flatMap xG).length+1 by
    have:∀ q:List aQ,(q.flatMap xG).length=q.length*2:=fun q=>by
     induction q with
     |nil=>rfl
     |cons a q ih=>rw[lIQ,lEP,ih,qee,lEX];omega
    rw[this,hl]]at g6
   unfold xG at g6 ⊢;rw[zoz]at g6;exact g6
  ·have T:=r.ord;rw[lOL]at T ⊢;refine⟨T.1,lU4 _ _,fun a ha c d=>?_⟩;rw[lI3]at d;subst d;exact T.2.2 a ha g g3
  ·intro x e;rw[lEY,lI3]at e;rcases e with e|rfl
   ·have T:=r.ord;rw[lOL]at T;have hxg:=T.2.2 x e g g3;refine⟨(r.rel x (by simp[e])).1.dJ i fun c I M h=>?_,lI7 (r.rel x (by simp[e])).2 n16⟩;rcases h with h|h
    ·have:=(m c h).1;omega
    ·exact r.dj x (by simp[e]) c h ⟨I,M⟩
   ·have hr:=(r.rel g g3).1;refine⟨⟨?_,?_,?_,?_⟩,lEO _⟩
    ·show Gl 6 s _ (g.gs++[_]).length ((g.gs++[_]).flatMap iK);rw[lEP,lIC,lIE];exact g5.fm f6 fun c d h=>by have:=S c d;have:=(J c h).2;omega
    ·intro c d;have:=S c d;show g.A<=c/\c<s.nx;omega
    ·intro y F;show _/\_/\∀ c,In y.tv c->g.A<=c/\c<s.nx/\_;rw[lEY,lI3]at F;rcases F with F|rfl
     ·obtain⟨I,M,N⟩:=hr.ty y F;refine⟨I.dJ i fun c d h=>?_,M,fun c d=>⟨(N c d).1,by have:=(N c d).2.1;omega,fun h=>by have:=S c h;have:=(N c d).2.1;omega⟩⟩;rcases h with h|h
      ·exact(N c d).2.2 h
      ·have:=(J c h).2;have:=(N c d).1;omega
     ·have p:∀ c,In (.sl tb to (kY L n).length (kY L n).length t) c->H3.nx<=c/\c<E.nx:=fun c d=>⟨ht.nw c d,ht.gl.lt d⟩;refine⟨?_,.inr ⟨_,_,_,_,_,rfl,lEO _,zen L n⟩,fun c d=>⟨by have:=(p c d).1;omega,by have:=(p c d).2;omega,fun h=>by have:=S c h;have:=(p c d).2;omega⟩⟩;have bGP:Fm (fun x=>x=H1.nx+1+12) E (E.put (H1.nx+1+12) (aB 0 [.str (gK n).n (gK n).a,.sl tb to (kY L n).length (kY L n).length t,c0,A,B,D])):=(Fm.refl _ _).put _ _ fun _=>rfl;refine(((ht.rs qfx).dJ bGP fun c d h=>?_).dJ f5 fun c d h=>?_).dJ f6 fun c d h=>?_
      ·have:=(p c d).1;omega
      ·have:=(p c d).1;have:=(m c h).2;omega
      ·have:=(p c d).1;have:=(J c h).2;omega
    ·intro y F;show jP (fun c=>g.A<=c/\c<s.nx/\_) s _ _;rw[lEY,lI3]at F;rcases F with F|rfl
     ·refine((hr.ru y F).dJ i fun c d h=>?_).mono fun c _ d=>⟨d.1,om,fun h=>by have:=S c h;omega⟩;rcases h with h|h
      ·exact d.2.2 h
      ·have:=(J c h).2;omega
     ·have I:jP (fun c=>H.nx<=c/\c<H1.nx) H1 (fM L n 6 2 false).1 [c0,A,B,D]:=R.mono fun c I M=>⟨M,I⟩;refine(I.dJ i fun c d h=>?_).mono fun c _ d=>⟨om,om,fun h=>by have:=S c h;omega⟩;rcases h with h|h
      ·have:=(m c h).2;omega
      ·have:=(J c h).2;omega
  ·intro x e c d;rw[lEY,lI3]at e;rcases e with e|rfl
   ·exact r.dj x (by simp[e]) c d
   ·have:=(J c d).2;show ¬(g.A<=c/\_);omega
 ·intro x e;rw[lEY,lI3]at e;rcases e with e|rfl
  ·exact f.an x (by simp[e])
  ·exact f.an g g3
 ·refine(f.fm.trans U).then i fun c d h=>?_;rcases h with h|h
  ·have:=(m c h).1;have:=f.an g g3;omega
  ·have:=(J c h).1;omega
theorem zpn(I:aU C)(W:20<=j){L:List (List Nat)}{v:AV}(X:n<bF L)(J:n%4=0){cb sb:Nat}{l:List aQ}(d:OfI L v H0 H cb sb sv l g)(Y:l.length<=1000){G:pH}{Q:pS}(K:∀(H':Hp) (M:AV) (A:Nat),OfI L v H0 H' cb sb M (l++[g]) ⟨dK (n / 4),[],.aA,A,A⟩->Ok (qk3 (C j) G (.ptr cb 0) (.ptr sb 0) (iN n) H') Q):Ok (qyj (C j) G (.ptr cb 0) (.ptr sb 0) (iN n) H) Q:=by
 have hm:bF L<=12:=lO3 _ _;rw[qho];unfold qfu;have f:=d.sbl;have s0:=d.sbk;have p:=d.m;have es:oD 64 sv sv=true:=by refine qP ?_ 63;rcases p.gl.is with⟨h,_⟩|⟨_,_,_,_,_,h,_⟩<;>(rw[h];rfl)
 simp(disch:=go_size)only[go_sem,seval,s0,J];have N:Fm No H ⟨H.t,H.nx+10⟩:=fm;refine Ok.iR (qn5 I (k:=j) om (n / 4) om _) ?_;rintro _ H1 ⟨rfl,D⟩;have i:=N.trans D;have n1:H.nx+10<=H1.nx:=D.nx;have O:=(i.keep f.2.2).trans s0;unfold SS.v;simp only[go_sem,seval,O,es];have r:Fm No H (H1.put (H.nx+6) (aB 0 [.str (dK (n / 4)).n (dK (n / 4)).a,.aA])):=i.aH _ _ om;have P:=p.no r;obtain⟨e,E,g2,U,F,V⟩:=P.gl.append (k:=1) (w:=40) (x:=[.str (dK (n / 4)).n (dK (n / 4)).a,.aA]) om rfl g2 g2;simp only[nq]at E g2 U V;have s:e.get sb=aB 0 [sv]:=(F.get sb (by simp only[nq];omega) d.ns.1).trans ((r.keep f.2.2).trans s0);refine Ok.tT E ?_;simp only[go_sem,seval,s];have y:Fm (fun x=>x=sb) e (e.put sb (aB 0 [.sl H1.nx 0 ((l++[g]).length+1) ((l++[g]).length+1) false])):=(Fm.refl _ _).put _ _ fun _=>rfl;have z:Fm (In sv) H e:=(r.mono fun _ _ h=>absurd h id).then F fun _ _ h=>h;have B:Fm (fun x=>In sv x\/x=sb) H (e.put sb (aB 0 [.sl H1.nx 0 ((l++[g]).length+1) ((l++[g]).length+1) false])):=(z.mono fun _ _ h=>.inl h).then y fun _ _ h=>.inr h;have m:∀ x,In (.sl H1.nx 0 ((l++[g]).length+1) ((l++[g]).length+1) false) x->x=H1.nx:=fun x a=>by obtain⟨_,_,_,_,a⟩:=a;cases a;rfl
 have R:=d.vQ;have S:=d.cbk.lt;have o:∀ x∈l++[g],¬(x.A<=sb/\sb<x.B):=fun x a=>by
  rw[lEY,lI3]at a;rcases a with a|rfl
  ·exact d.sbd x a
  ·omega
 refine K _ (.sl H1.nx 0 ((l++[g]).length+1) ((l++[g]).length+1) false) e.nx ⟨⟨?_,?_⟩,dL _ _ _,⟨f.1,?_,?_⟩,?_,d.ne,⟨fun h=>?_,fun h=>?_⟩,fun x a=>?_,o,?_,fun x a=>?_,lEO _,?_⟩
 ·show cb<e.nx;omega
 ·rw[dS _ _ _ _ (by have:=d.ne;omega)];exact(z.get cb S d.ns.2).trans d.cbk.is
 ·show sb<e.nx;omega
 ·show sb<e.nx;omega
 ·show cb<e.nx;omega
 ·have:=m _ h;omega
 ·have:=m _ h;omega
 ·have T:=d.fm.nx;have:=m _ a;show _/\x<e.nx;omega
 ·refine p.push B (fun x a b t u h=>?_) _ ?_ fun b q=>by have:=m _ q;omega
  ·rcases h with h|rfl
   ·exact p.dj x a b h ⟨t,u⟩
   ·exact o x a ⟨t,u⟩
  ·exact g2.fm y fun b q h=>by have:=m _ q;omega
 ·rw[lEY,lI3]at a;rcases a with a|rfl
  ·exact d.an x a
  ·have T:=d.fm.nx;show H0.nx<=e.nx;omega
 ·refine d.fm.then B fun c Z h=>?_;rcases h with h|rfl
  ·have:=(R c h).1;omega
  ·omega
def spN(L:List (List Nat))(i n:Nat):zM:=⟨dK i,(rg (4*i) n).map (mD L)⟩
def spF(L:List (List Nat))(i:Nat):zM:=spN L i (4*i+4)
def pre(L:List (List Nat))(q:Nat):List zM:=⟨sU,[]⟩::(List.range q).map (spF L)
theorem zx0(L:List (List Nat))(q:Nat):pre L (q+1)=pre L q++[spF L q]:=by unfold pre;rw[lX4,lID];rfl
def Mid(L:List (List Nat))(n:Nat)(l:List aQ)(g:aQ):Prop:=∃ q,l.map aQ.sp=pre L q/\g.sp=spN L q n/\4*q<=n/\n<4*q+4
def St(L:List (List Nat))(n:Nat)(l:List aQ)(g:aQ):Prop:=(n=0/\l=[]/\g.sp=⟨sU,[]⟩)\/∃ q,l.map aQ.sp=pre L q/\g.sp=spN L q n/\4*q<n/\n<=4*q+4
theorem Mid.len{L:List (List Nat)}{l:List aQ}(h:Mid L n l g):l.length=1+n / 4/\g.gs.length<=4:=by obtain⟨q,c,d,e,f⟩:=h;have a:=congrArg List.length c;have b:=congrArg (fun s=>s.bH.length) d;simp only[lET,pre,lEX,lXC,aQ.sp,spN,qlx]at a b;omega
theorem Mid.rel{L:List (List Nat)}{l:List aQ}(h:Mid L n l g){rv:AV}{A B:Nat}{r:bC}(a:r.r=mD L n):St L (n+1) l ⟨g.name,g.gs++[r],rv,A,B⟩:=by obtain⟨q,b,c,d,e⟩:=h;refine .inr ⟨q,b,?_,om,om⟩;unfold aQ.sp spN at *;injection c with e1 e2;rw[qla d,lID,lID,e1,e2];simp[a]
theorem St.push{L:List (List Nat)}{l:List aQ}(h:St L n l g)(d:n%4=0)(A:Nat):Mid L n (l++[g]) ⟨dK (n / 4),[],.aA,A,A⟩:=by
 rcases h with⟨rfl,rfl,h⟩|⟨q,b,c,e,f⟩
 ·exact⟨0,by simp[pre,h],rfl,om,om⟩
 ·have a:n=4*q+4:=om;subst a;refine⟨q+1,by rw[lID,b,zx0,lOD,c];rfl,?_,om,om⟩;unfold aQ.sp spN;rw[show(4*q+4) / 4=q+1 by omega,show 4*q+4=4*(q+1)by omega,qy1];rfl
theorem St.mid{L:List (List Nat)}{l:List aQ}(h:St L n l g)(c:¬ n%4=0):Mid L n l g:=by
 rcases h with⟨rfl,_,_⟩|⟨q,a,b,d,e⟩
 ·omega
 ·exact⟨q,a,b,om,om⟩
theorem St.len{L:List (List Nat)}{l:List aQ}(h:St L n l g)(c:n<=12):l.length<=4:=by
 rcases h with⟨rfl,rfl,_⟩|⟨q,b,d,e,f⟩
 ·simp
 ·have a:=congrArg List.length b;simp only[lET,pre,lEX,lXC]at a;omega
theorem zpz(f:aU C){j:Nat}(m:20<=j){L:List (List Nat)}{v:AV}{H0:Hp}{cb sb:Nat}(o:iE H0 v L){Q:pS}{q:pL}(r:∀(H:Hp) (sv:AV) (l:List aQ) (g:aQ),OfI L v H0 H cb sb sv l g->St L (bF L) l g->Ok (q H) Q):∀(k n:Nat) (l:List aQ) (g:aQ) (sv:AV) (H:Hp),n<=bF L->bF L-n<k->OfI L v H0 H cb sb sv l g->St L n l g -> Ok (qk1 (C j) q (.ptr cb 0) (.ptr sb 0) k (iN n) H) Q
 |0,n,_,_,_,_,_,h,_,_=>om
 |k+1,n,l,g,sv,H,hi,hk,a,hS=>by
  show Ok (q7n (C j) _ _ _ (qk1 (C j) _ _ _ k) _ H) Q;unfold q7n;have z:bF L<=12:=lO3 _ _;have w:=a.cbk.is;simp only[go_sem,w];refine Ok.ve (qlg f (k:=j) om (o.fm a.fm)) ?_;rintro _ s ⟨rfl,e⟩;have d:OfI L v H0 s cb sb sv l g:=⟨a.cbk.fm e,(e.keep a.sbl.2.2).trans a.sbk,⟨a.sbl.1,a.sbl.2.1,af a.sbl.2.2 e.nx⟩,a.cbl,a.ne,a.ns,a.vQ,a.sbd,a.m.no e,a.an,lI7 a.ax e.nx,a.fm.trans e⟩;by_cases b:n<bF L
  ·simp only[go_sem,b];have next:∀(l:List aQ) (g:aQ) (sv:AV) (H:Hp),OfI L v H0 H cb sb sv l g->Mid L n l g->Ok (qk3 (C j) (qk1 (C j) q (.ptr cb 0) (.ptr sb 0) k) (.ptr cb 0) (.ptr sb 0) (iN n) H) Q:=by
    intro l g sv H a p;refine zxm f m b o a p.len.1 (by have:=p.len.2;omega) fun H' t rg u c=>?_;exact zpz f m o r k (n+1) l _ sv H' om om c (p.rel u)
   by_cases i:n%4=0
   ·refine zpn f m b i d (by have:=hS.len om;omega) fun H' y A c=>?_;exact next _ _ _ _ c (hS.push i A)
   ·rw[qho];unfold qfu;simp(disch:=go_size)only[go_sem,rB,rI,rK,rL,rN,rS,r8,i];exact next _ _ _ _ d (hS.mid i)
  ·have x:n=bF L:=om;subst x;simp only[go_sem,b];exact r s sv l g d hS
theorem Gl.sub{v:AV}(h:Gl z H v n l)(a:i<n):∃ b o,aG z v (iN i)=.val (.ptr b o)/\b<H.nx/\In v b/\∀ s k,s+k<=z->iF (H.get b) (o+s) k=some ((((l.drop (i*z)).take z).drop s).take k):=by
 have d:=h.len;rcases h.is with⟨rfl,rfl⟩|⟨b,o,e,q,L,rfl,g,t,c,u,j⟩
 ·omega
 ·have p:i*z+z<=n*z:=by
   have:(i+1)*z<=n*z:=lO9 z a;rw[lOS,lUB]at this;exact this
  have r:o+n*z=L.length:=by rw[<-c,lIZ]at d;omega
  refine⟨b,o+i*z,uY _ _ _ _ _ _ _ _ a,j,⟨_,_,_,_,rfl⟩,fun s k m=>?_⟩;have f:((l.drop (i*z)).take z).drop s=(L.drop (o+i*z+s)).take (z-s):=by rw[List.drop_take,<-c,lXE,lXE,lIP]
  rw[f,List.take_take,lOE om,g,qbv,lEZ om]
theorem tN.at{A B:Nat}{rv:AV}{a:List bC}(h:tN A B H rv a)(c:i<a.length):∃b o,aG 6 rv (iN i)=.val (.ptr b o)/\b<H.nx/\In rv b/\bI (H.get b) o=.val (.str a[i].r.name.n a[i].r.name.a)/\bI (H.get b) (o+1)=.val a[i].tv/\iF (H.get b) (o+2) 4=some a[i].cs/\iF (H.get b) o 6=some (iK a[i]):=by obtain⟨b,o,d,e,f,g⟩:=h.gl.sub c;obtain⟨k,l,g1,_,_,g4,g5⟩:=(h.gl.rs qju).at' i c;rw[d]at g1;injection g1 with g1;injection g1 with g1 g2;subst g1 g2;refine⟨b,o,d,e,f,g5 0 (by rw[qju];omega),g5 1 (by rw[qju];omega),?_,g4⟩;rw[g 2 4 om,qr5 qju a i c];obtain⟨c0,m,n,p,j⟩:=(h.ru a[i] (lEQ c)).four;unfold iK;rw[j];rfl
def qyp(bH:List jM)(r:jM):Bool:=gD r.rule 1 sE||bH.any fun x=>gD x.rule 3 r.name
theorem qqw(n:aU C){j:Nat}(s:20<=j){A B:Nat}{rv:AV}{a:List bC}{H0:Hp}(p:tN A B H0 rv a)(e:a.length<=1000)(m:∀ g∈a,g.r.rule.depth<=12/\g.r.rule.size<=10000){f:Nat}(l:f<a.length){u0:Bool}{Q:pS}{q:pH}(t:∀ H,Fm No H0 H->Ok (q (.bool (u0||a.any fun x=>gD x.r.rule 3 a[f].r.name)) H) Q):∀(k i:Nat) (u:Bool) (H:Hp),i<=a.length->a.length-i<k->Fm No H0 H->u=(u0||(a.take i).any fun x=>gD x.r.rule 3 a[f].r.name) -> Ok (qqq (C j) q rv (iN f) k (.bool u) (iN i) H) Q
 |0,i,_,_,_,h,_,_=>om
 |k+1,i,u,H,hi,hk,hf,hu=>by
  show Ok (q7o (C j) _ _ _ (qqq (C j) _ _ _ k) _ _ H) Q;unfold q7o;have d:=p.dJ hf fun _ _ _ h=>h;have v:=d.gl.aX;by_cases c:i<a.length
  ·simp only[go_sem,v,c];rw[qu4];unfold qn2;have w:((a.take (i+1)).any fun x=>gD x.r.rule 3 a[f].r.name)=(((a.take i).any fun x=>gD x.r.rule 3 a[f].r.name)||gD a[i].r.rule 3 a[f].r.name):=by
    rw[lER c,lX5];simp
   cases u with
   |true=>rw[qk4];unfold qjj;simp(disch:=go_size)only[go_sem,rB,rI,rK,rL,rN,rS,r8];refine qqw n s p e m l t k (i+1) true H om om hf ?_;rw[w,<-Bool.or_assoc,<-hu];rfl
   |false=>obtain⟨b,o,y,G,_,_,_,z,_⟩:=d.at c;obtain⟨I,J,g1,g2,_,g4,_,_,_⟩:=d.at l;simp only[go_sem,y,z,g1,g4];refine Ok.iR (z3e n (k:=j) (r:=a[i].r.rule) (by have:=(m _ (lEQ c)).1;omega) (by have:=(m _ (lEQ c)).2;omega) (d.ru _ (lEQ c)) 3 a[f].r.name) ?_;rintro _ D ⟨rfl,E⟩;rw[qk4];unfold qjj;simp(disch:=go_size)only[go_sem,rB,rI,rK,rL,rN,rS,r8];refine qqw n s p e m l t k (i+1) _ D om om (hf.trans E) ?_;simp_all
  ·have F:i=a.length:=om;simp only[go_sem,v,c];simp_all
end Go.Di
end
