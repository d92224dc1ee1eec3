/-
 For StrataTurns: functions in direct style, their contracts, and the plain mathematics, part 3 of 10. No conditions beyond those that each theorem states.
-/
import Derived.Test.YtighkibjecdbnaaGreatEv4
import Derived.Test.YtighkibjecdbnaaGreatConB
import Derived.Test.YtighkibjecdbnaaGreatConA
set_option linter.unusedSimpArgs false
set_option linter.unusedVariables false
open Nat renaming reduceAdd->rB,reduceMul->rI,reduceSub->rK,reduceLeDiff->rL,reduceEqDiff->rN,reduceShiftRight->rS,reduceAnd->r6
noncomputable section
namespace Go.Di
open Go.Ev
variable {P:Program} {d n:Nat} {O:Ev.Call}
theorem pL{α:Type}{c:Code}{K:Kt d}{X Y:α}(e:X=Y)(f:α->TT AV d->pD)(h:Lk P d n O c K (f Y)):Lk P d n O c K (f X):=by rw[e];exact h
theorem dN{f:FuncId}{F:Func}(hf:P.funcs[f]? =some F){args:List AV}(h:(!(F.name == "runtime.NumGoroutine")&&(F.body.isSome&&(qkz (codeOf F)&&(Nat.ble args.length F.ntmps&&Nat.ble (F.ntmps+1) 262144))))=true)
  {D:TT AV (iF (F.ntmps+1))->pD} (l:Lk P (iF (F.ntmps+1)) F.ntmps O (codeOf F) (aEz (qcj P (iF (F.ntmps+1)) F.ntmps F.results.toList).f) D) (H:Hp) :
  (aP P f).f O args H=D (nR args 0 (same .undef _)) H:=by
 rw[qc,qc,qc]at h;exact rE hf (by simpa using h.1) h.2.1 h.2.2.1 h.2.2.2 l H
theorem r7{f:FuncId}{F:Func}(hf:P.funcs[f]? =some F){args:List AV}{D:TT AV (iF (F.ntmps+1))->pD}(l:Lk P (iF (F.ntmps+1)) F.ntmps O (codeOf F) (aEz (qcj P (iF (F.ntmps+1)) F.ntmps F.results.toList).f) D){H:Hp}{r}(e:D (nR args 0 (same .undef _)) H=r:=by kernel_rfl)(h:(!(F.name == "runtime.NumGoroutine")&&(F.body.isSome&&(qkz (codeOf F)&&(Nat.ble args.length F.ntmps&&Nat.ble (F.ntmps+1) 262144))))=true:=by kernel_rfl):(aP P f).f O args H=r:=(dN hf h l H).trans e
end Go.Di
end
noncomputable section
namespace Go.Di
open Go.Ev
variable {H H' H0:Hp} {S:Nat->Prop} {i n z:Nat} {l:List AV}
structure LP where
 n:Nat
 ps:List Tmp
 aC:Code
 bd:Code
def LP.blk(p:LP)(b:Bool)(L:TT AV 2):bO:=.loop b none 2 p.n L p.ps p.aC p.bd
def pu(L:TT AV 2):List (Nat×AV)->TT AV 2
 | []=>L
 |p::r=>pu ((setter 2 p.1).f L p.2) r
theorem z6a{l:Nat}{v:AV}{L:TT AV 2}{p:LP}{M:TT AV 2}{E:TT AV 2->pD}{K:Kt 2}(h:H'.get l=p.blk true M):fin (endLoop l (.ok v H') L) (aAl i (thn E K))=E L (H'.put l .dead):=by unfold endLoop;simp only[h];rfl
theorem znb{l:Nat}{L M:TT AV 2}{p:LP}(h:H.get l=p.blk false M):endRound l (.ok .normal L H)=.ok (.bool true) (H.put l (p.blk true M)):=by unfold endRound;simp only[zxp,h];rfl
def q4v(O:Ev.Call)(x2 x5:AV)(H:Hp):R1:=vq (aQ 0 x5) H fun a3 H=>vq (aO H a3) H fun a4 H=>ve (O (.f 77) [a4] H) fun a5 H=>vq (aQ 0 x5) H fun a6 H=>ve (jX H a6 a5) fun _ H=>vq (dQ 2 H x5) H fun a8 H=>ve (zJ 2 H x2 a8) fun _ H=>fM (kW (kP (rV (dQ 2 H x2)) (kP (some (iN 0)) (some [])))) H
def qhx(O:Ev.Call)(l:Nat)(L:TT AV 2)(x5 x6:AV)(H:Hp):R1:=dz 8 H fun b16 H=>dn 0 0 b16 H [] [] (aQ 0 x5) fun a17 H p w=>dl 1 1 b16 H p w (fun H=>aO H a17) fun cZ H p w=>dn 2 0 b16 H p w (.val x6) fun dI H p w=>de 4 H p w (O (.f 39) [dI] (eU 4 p H)) (some true) fun a20 H p w=>da 4 12 b16 H p w (tK 1 (b16+4) (dF (bB [.aA] 1) [(0,1,a20)])) fun a21 H p w=>de 31 H p w (lI 1 24 (eU 31 p H) cZ (qA 1 (eU 31 p H) a21)) (some true) fun a22 H p w=>dn 6 63 b16 H p w (aQ 0 x5) fun a23 H p w=>de 127 H p w (jX (eU 127 p H) a23 a22) (some true) fun _ H p w=>dz2 p H fun H=>endRound l (.ok .normal L H)
def q4u(O:Ev.Call)(g27:pB)(x29:AV)(H:Hp):R1:=vq (gU (mM .add).f x29 (iN 1)) H fun a29 H=>g27 a29 H
def q4t(O:Ev.Call)(g27:pB)(x5 x27 x29:AV)(H:Hp):R1:=vq (aG 1 x27 x29) H fun a31 H=>vq (aO H a31) H fun a32 H=>vq (aQ 1 x5) H fun a33 H=>vq (aO H a33) H fun a34 H=>vq (aQ 0 x5) H fun a35 H=>vq (aO H a35) H fun a36 H=>vq (aF a36) H fun a37 H=>vq (aG 1 a34 a32) H fun a38 H=>ve (jX H a38 a37) fun _ H=>q4u O g27 x29 H
def q4w(O:Ev.Call)(yH:pD)(x5 x27 x28:AV)(g27:pB)(x29:AV)(H:Hp):R1:=vq (gU (mM .lss).f x29 x28) H fun a28 H=>cd a28 (q4t O g27 x5 x27 x29 H) (yH H)
def qj9(O:Ev.Call)(yH:pD)(x5 x27 x28:AV)(n:Nat):pB:=Nat.rec (motive:=fun _=>pB) (fun _ _=>.bad) (fun _ ih=>q4w O yH x5 x27 x28 ih) n
def q4x(O:Ev.Call)(yH:pD)(x5 x27 x28:AV):pB:=qj9 O yH x5 x27 x28 dD
def tV(O:Ev.Call)(l:Nat)(L:TT AV 2)(x5 x26:AV)(H:Hp):R1:=vq (aF x26) H fun a26 H=>q4x O (fun H=>qhx O l L x5 x26 H) x5 x26 a26 (iN 0) H
def zq6(LO:LP)(O:Ev.Call)(L:TT AV 2)(x25:AV)(H:Hp):R1:=fin (endLoop H.nx (qjo O x25 [.yield H.nx] (aN H (LO.blk true L))) L) (aAl 0 (thn (fun L H=>q4v O (G L 2) (G L 5) H) (aEz fun L H=>kW (kP (rV (dQ 2 H (G L 2))) (kP (some (G L 3)) (some []))))))
def qn2(LO:LP)(O:Ev.Call)(L:TT AV 2)(x1:AV)(H:Hp):R1:=dz 0 H fun b11 H=>dl 0 0 b11 H [] [] (fun H=>dQ 2 H x1) fun a12 H p w=>dl 1 0 b11 H p w (fun H=>dQ 2 H x1) fun bT H p w=>de 2 H p w (O (.f 76) [bT] (eU 2 p H)) (some true) fun bU H p w=>de 7 H p w (O (.f 75) [a12,bU] (eU 7 p H)) (some true) fun dB H p w=>dz2 p H fun H=>zq6 LO O (pu L [(22,a12),(23,bT),(24,bU),(25,dB)]) dB H
def q4s(LO:LP)(O:Ev.Call)(L:TT AV 2)(x1 x2:AV)(H:Hp):R1:=vq (.new (.ptr H.nx 0) (aB 0 [.aA,.aA])) H fun a2 H=>vq (aQ 0 x1) H fun a42 H=>vq (aO H a42) H fun a43 H=>vq (gU (mM .gtr).f a43 (iN 0)) H fun a44 H=>cd a44 (vq (aQ 0 x1) H fun a45 H=>vq (aO H a45) H fun a46 H=>vq (qgb [iN 0] 8 H.nx a46 a46) H fun a47 H=>vq (aQ 1 a2) H fun a48 H=>ve (jX H a48 a47) fun _ H=>qn2 LO O (pu L [(5,a2),(15,a42),(16,a43),(17,a44),(18,a45),(19,a46),(20,a47),(21,a48)]) x1 H) (qn2 LO O (pu L [(5,a2),(15,a42),(16,a43),(17,a44)]) x1 H)
def zz6(LO:LP)(O:Ev.Call)(L:TT AV 2)(x0:AV)(H:Hp):R1:=vq (yE 2 H.nx x0) H fun a0 H=>vq (.new (.ptr H.nx 0) (aB 0 [.aA,.aA])) H fun a1 H=>vq (dQ 2 H a0) H fun a51 H=>ve (O (.f 74) [a51] H) fun a52 H=>vq (gU (mM .neq).f a52 (iN 0)) H fun a53 H=>cd a53 (vq (dO (dF [.aA,.aA] [])) H fun a54 H=>ve (zJ 2 H a1 a54) fun _ H=>fM (kW (kP (rV (dQ 2 H a1)) (kP (some a52) (some [])))) H) (q4s LO O (pu L [(1,a0),(2,a1),(3,iN 0),(9,a51),(10,a52),(4,a52),(11,a52),(12,a53)]) a0 a1 H)
def zBo(LO:LP)(O:Ev.Call)(x0:AV)(H:Hp):R1:=zz6 LO O (nR [x0] 0 (same .undef 2)) x0 H
def qgl(O:Ev.Call)(x2:AV)(H:Hp):R1:=vq (aO H x2) H fun a1 H=>.ok a1 H
def eG(O:Ev.Call)(l:Nat)(L:TT AV 2)(x2 x7:AV)(H:Hp):R1:=vq (aO H x2) H fun a3 H=>vq (tK 1 H.nx (dF (bB [iN 0] 1) [(0,1,x7)])) H fun a4 H=>ve (lI 1 8 H a3 (qA 1 H a4)) fun a5 H=>ve (jX H x2 a5) fun _ H=>endRound l (.ok .normal L H)
def qig(LA:LP)(O:Ev.Call)(L:TT AV 2)(x1:AV)(H:Hp):R1:=fin (endLoop H.nx (qjo O x1 [.yield H.nx] (aN H (LA.blk true L))) L) (aAl 0 (thn (fun L H=>qgl O (G L 2) H) (aEz fun L _=>some (G L 4))))
def qih(LA:LP)(O:Ev.Call)(L:TT AV 2)(x0 x1:AV)(H:Hp):R1:=vq (l9 H.nx x0) H fun a0 H=>qig LA O (pu L [(2,a0),(4,.aA),(6,x1)]) x1 H
def jR(LA:LP)(O:Ev.Call)(x0 x1:AV)(H:Hp):R1:=qih LA O (nR [x0,x1] 0 (same .undef 2)) x0 x1 H
structure aYL(LA LO:LP)(c d:Ev.Call):Prop where
 jR:∀(x0 x1:AV) (H:Hp),c (.f 190) [x0,x1] H=Di.jR LA d x0 x1 H
 eG:∀(L:TT AV 2) (l:Nat) (v:AV) (H:Hp),H.get l=LA.blk true L->c (.y l) [v] H=Di.eG d l L (G L 2) v (H.put l (LA.blk false L))
 zBo:∀(x0:AV) (H:Hp),c (.f 48) [x0] H=Di.zBo LO d x0 H
 tV:∀(L:TT AV 2) (l:Nat) (v:AV) (H:Hp),H.get l=LO.blk true L->c (.y l) [v] H=Di.tV d l L (G L 5) v (H.put l (LO.blk false L))
abbrev oZ(LA LO:LP)(C:Nat->Ev.Call):Prop:=∀ k,aYL LA LO (C (k+1)) (C k)
structure Lnk(c d:Ev.Call):Prop where
 zFz:∀ x0 x1 H,c (.f 4) [x0,x1] H=Di.zFz d x0 x1 H
 zAc:∀ x0 H,c (.f 6) [x0] H=Di.zAc d x0 H
 zGa:∀ x0 H,c (.f 17) [x0] H=Di.zGa d x0 H
 zAe:∀ x0 H,c (.f 8) [x0] H=Di.zAe d x0 H
 zAt:∀ x0 H,c (.f 18) [x0] H=Di.zAt d x0 H
 zGb:∀ x0 H,c (.f 19) [x0] H=Di.zGb d x0 H
 zGc:∀ x0 H,c (.f 20) [x0] H=Di.zGc d x0 H
 zAn:∀ x0 H,c (.f 25) [x0] H=Di.zAn d x0 H
 zAo:∀ x0 H,c (.f 26) [x0] H=Di.zAo d x0 H
 zAp:∀ x0 x1 x2 x3 x4 H,c (.f 27) [x0,x1,x2,x3,x4] H=Di.zAp d x0 x1 x2 x3 x4 H
 zAq:∀ x0 H,c (.f 28) [x0] H=Di.zAq d x0 H
 zAr:∀ x0 x1 H,c (.f 29) [x0,x1] H=Di.zAr d x0 x1 H
 zAs:∀ x0 x1 x2 H,c (.f 30) [x0,x1,x2] H=Di.zAs d x0 x1 x2 H
 zAf:∀ x0 H,c (.f 10) [x0] H=Di.zAf d x0 H
 zAg:∀ x0 H,c (.f 9) [x0] H=Di.zAg d x0 H
 zAu:∀ x0 H,c (.f 23) [x0] H=Di.zAu d x0 H
 zBj:∀ x0 H,c (.f 40) [x0] H=Di.zBj d x0 H
 zBk:∀ x0 H,c (.f 41) [x0] H=Di.zBk d x0 H
 zBl:∀ x0 x1 x2 x3 x4 x5 x6 H,c (.f 42) [x0,x1,x2,x3,x4,x5,x6] H=Di.zBl d x0 x1 x2 x3 x4 x5 x6 H
 zBm:∀ x0 x1 x2 x3 H,c (.f 43) [x0,x1,x2,x3] H=Di.zBm d x0 x1 x2 x3 H
 zBn:∀ x0 H,c (.f 44) [x0] H=Di.zBn d x0 H
 zGd:∀ x0 H,c (.f 45) [x0] H=Di.zGd d x0 H
 zBs:∀ x0 x1 H,c (.f 46) [x0,x1] H=Di.zBs d x0 x1 H
 zGe:∀ x0 x1 x2 H,c (.f 47) [x0,x1,x2] H=Di.zGe d x0 x1 x2 H
 zGf:∀ x0 x1 H,c (.f 50) [x0,x1] H=Di.zGf d x0 x1 H
 zGg:∀ x0 x1 H,c (.f 49) [x0,x1] H=Di.zGg d x0 x1 H
 zGh:∀ x0 x1 x2 H,c (.f 51) [x0,x1,x2] H=Di.zGh d x0 x1 x2 H
 zBd:∀ x0 H,c (.f 39) [x0] H=Di.zBd d x0 H
 zBe:∀ x0 H,c (.f 56) [x0] H=Di.zBe d x0 H
 zBf:∀ x0 x1 x2 x3 H,c (.f 57) [x0,x1,x2,x3] H=Di.zBf d x0 x1 x2 x3 H
 zBg:∀ x0 x1 x2 x3 H,c (.f 58) [x0,x1,x2,x3] H=Di.zBg d x0 x1 x2 x3 H
 zBh:∀ x0 H,c (.f 59) [x0] H=Di.zBh d x0 H
 zBi:∀ x0 x1 x2 H,c (.f 60) [x0,x1,x2] H=Di.zBi d x0 x1 x2 H
 zAz:∀ x0 x1 x2 H,c (.f 35) [x0,x1,x2] H=Di.zAz d x0 x1 x2 H
 zAh:∀ x0 H,c (.f 11) [x0] H=Di.zAh d x0 H
 zAx:∀ x0 H,c (.f 33) [x0] H=Di.zAx d x0 H
 zAy:∀ x0 x1 x2 H,c (.f 34) [x0,x1,x2] H=Di.zAy d x0 x1 x2 H
 zAm:∀ x0 x1 x2 H,c (.f 16) [x0,x1,x2] H=Di.zAm d x0 x1 x2 H
 zBa:∀ x0 x1 x2 x3 H,c (.f 36) [x0,x1,x2,x3] H=Di.zBa d x0 x1 x2 x3 H
 zBb:∀ x0 x1 x2 x3 H,c (.f 37) [x0,x1,x2,x3] H=Di.zBb d x0 x1 x2 x3 H
 zBp:∀ x0 H,c (.f 53) [x0] H=Di.zBp d x0 H
 zBq:∀ x0 H,c (.f 54) [x0] H=Di.zBq d x0 H
 zBc:∀ x0 H,c (.f 38) [x0] H=Di.zBc d x0 H
 zBu:∀ x0 H,c (.f 62) [x0] H=Di.zBu d x0 H
 zBr:∀ x0 H,c (.f 61) [x0] H=Di.zBr d x0 H
 zBv:∀ x0 x1 x2 H,c (.f 63) [x0,x1,x2] H=Di.zBv d x0 x1 x2 H
 zBw:∀ x0 H,c (.f 64) [x0] H=Di.zBw d x0 H
 zBx:∀ x0 x1 x2 H,c (.f 65) [x0,x1,x2] H=Di.zBx d x0 x1 x2 H
 zBy:∀ x0 x1 x2 x3 H,c (.f 66) [x0,x1,x2,x3] H=Di.zBy d x0 x1 x2 x3 H
 zBz:∀ x0 x1 H,c (.f 67) [x0,x1] H=Di.zBz d x0 x1 H
 zCb:∀ x0 H,c (.f 70) [x0] H=Di.zCb d x0 H
 zCc:∀ x0 H,c (.f 69) [x0] H=Di.zCc d x0 H
 zGj:∀ x0 H,c (.f 72) [x0] H=Di.zGj d x0 H
 zGk:∀ x0 x1 H,c (.f 73) [x0,x1] H=Di.zGk d x0 x1 H
 zCd:∀ x0 H,c (.f 74) [x0] H=Di.zCd d x0 H
 zCe:∀ x0 H,c (.f 76) [x0] H=Di.zCe d x0 H
 zCf:∀ x0 x1 H,c (.f 75) [x0,x1] H=Di.zCf d x0 x1 H
 zCg:∀ x0 H,c (.f 77) [x0] H=Di.zCg d x0 H
 zGl:∀ x0 x1 H,c (.f 79) [x0,x1] H=Di.zGl d x0 x1 H
 zGm:∀ x0 H,c (.f 78) [x0] H=Di.zGm d x0 H
 zGn:∀ x0 x1 H,c (.f 80) [x0,x1] H=Di.zGn d x0 x1 H
 zGo:∀ x0 H,c (.f 81) [x0] H=Di.zGo d x0 H
 zBt:∀ x0 x1 x2 H,c (.f 89) [x0,x1,x2] H=Di.zBt d x0 x1 x2 H
 zCi:∀ x0 H,c (.f 91) [x0] H=Di.zCi d x0 H
 zCj:∀ x0 x1 x2 x3 H,c (.f 93) [x0,x1,x2,x3] H=Di.zCj d x0 x1 x2 x3 H
 zCk:∀ x0 x1 H,c (.f 94) [x0,x1] H=Di.zCk d x0 x1 H
 zCl:∀ x0 x1 x2 x3 H,c (.f 96) [x0,x1,x2,x3] H=Di.zCl d x0 x1 x2 x3 H
 zCm:∀ x0 x1 x2 H,c (.f 98) [x0,x1,x2] H=Di.zCm d x0 x1 x2 H
 zCn:∀ x0 H,c (.f 92) [x0] H=Di.zCn d x0 H
 zCo:∀ x0 x1 x2 x3 x4 x5 x6 H,c (.f 100) [x0,x1,x2,x3,x4,x5,x6] H=Di.zCo d x0 x1 x2 x3 x4 x5 x6 H
 zCp:∀ x0 H,c (.f 102) [x0] H=Di.zCp d x0 H
 zCq:∀ x0 H,c (.f 103) [x0] H=Di.zCq d x0 H
 zCr:∀ x0 x1 H,c (.f 105) [x0,x1] H=Di.zCr d x0 x1 H
 zCs:∀ x0 H,c (.f 106) [x0] H=Di.zCs d x0 H
 zCt:∀ x0 H,c (.f 104) [x0] H=Di.zCt d x0 H
 zGp:∀ x0 x1 H,c (.f 110) [x0,x1] H=Di.zGp d x0 x1 H
 zGq:∀ x0 H,c (.f 111) [x0] H=Di.zGq d x0 H
 zCu:∀ x0 x1 H,c (.f 115) [x0,x1] H=Di.zCu d x0 x1 H
 zCv:∀ x0 x1 H,c (.f 113) [x0,x1] H=Di.zCv d x0 x1 H
 zCw:∀ x0 x1 x2 x3 H,c (.f 114) [x0,x1,x2,x3] H=Di.zCw d x0 x1 x2 x3 H
 zCx:∀ x0 H,c (.f 123) [x0] H=Di.zCx d x0 H
 zCy:∀ x0 x1 H,c (.f 95) [x0,x1] H=Di.zCy d x0 x1 H
 zCz:∀ x0 x1 x2 H,c (.f 97) [x0,x1,x2] H=Di.zCz d x0 x1 x2 H
 zDa:∀ x0 x1 H,c (.f 99) [x0,x1] H=Di.zDa d x0 x1 H
 zDb:∀ x0 H,c (.f 101) [x0] H=Di.zDb d x0 H
 zDc:∀ x0 H,c (.f 130) [x0] H=Di.zDc d x0 H
 zGr:∀ x0 H,c (.f 141) [x0] H=Di.zGr d x0 H
 zDd:∀ x0 x1 H,c (.f 143) [x0,x1] H=Di.zDd d x0 x1 H
 zDe:∀ x0 x1 H,c (.f 144) [x0,x1] H=Di.zDe d x0 x1 H
 zDf:∀ x0 x1 H,c (.f 124) [x0,x1] H=Di.zDf d x0 x1 H
 zDg:∀ x0 x1 H,c (.f 126) [x0,x1] H=Di.zDg d x0 x1 H
 zDh:∀ x0 x1 H,c (.f 125) [x0,x1] H=Di.zDh d x0 x1 H
 zDj:∀ x0 x1 H,c (.f 171) [x0,x1] H=Di.zDj d x0 x1 H
 zDk:∀ x0 H,c (.f 173) [x0] H=Di.zDk d x0 H
 zDl:∀ x0 H,c (.f 172) [x0] H=Di.zDl d x0 H
 zDm:∀ x0 x1 H,c (.f 155) [x0,x1] H=Di.zDm d x0 x1 H
 zDn:∀ x0 x1 H,c (.f 128) [x0,x1] H=Di.zDn d x0 x1 H
 zDo:∀ x0 x1 H,c (.f 127) [x0,x1] H=Di.zDo d x0 x1 H
 zDp:∀ x0 x1 H,c (.f 156) [x0,x1] H=Di.zDp d x0 x1 H
 zDq:∀ x0 x1 H,c (.f 186) [x0,x1] H=Di.zDq d x0 x1 H
 zDr:∀ x0 H,c (.f 185) [x0] H=Di.zDr d x0 H
 zDs:∀ x0 x1 H,c (.f 157) [x0,x1] H=Di.zDs d x0 x1 H
abbrev aV(C:Nat->Ev.Call):Prop:=∀ k,Lnk (C (k+1)) (C k)
abbrev qjt(C:Nat->Ev.Call):Prop:=aV C
theorem bZ:bL=1000000:=rfl
attribute [go_sem] qoi qoh qog qof qsd qwa qsc qv9 qsb qv8 qsa qv7 qr9 qv6 qr8 qv5 qr7 qv4 qrw quv qrv quu qru qut qyg q36
theorem Gl.atN{v:AV}(h:Gl z H v n l)(c:i<n):∃ b o,aG z v (iN i)=.val (.ptr b o)/\b<H.nx/\In v b/\jG (H.get b) o z=some ((l.drop (i*z)).take z)/\∀(j:Nat),j<z->bK (H.get b) (o+j)=.val (l.getD (i*z+j) .undef):=by
 have f:=h.len;rcases h.is with⟨rfl,rfl⟩|⟨b,o,e,q,L,rfl,d,r,a,s,g⟩
 ·omega
 ·have m:i*z+z<=n*z:=by
   have:(i+1)*z<=n*z:=um z c;rw[xk,zu]at this;exact this
  have p:o+n*z=L.length:=by rw[<-a,xx]at f;omega
  refine⟨b,o+i*z,uT _ _ _ _ _ _ _ _ c,g,⟨_,_,_,_,rfl⟩,?_,fun j k=>?_⟩
  ·rw[d,qb7,kz (by omega),<-lAB,a]
  ·rw[d,qbx];have:L[o+i*z+j]? =l[i*z+j]? :=by rw[<-a,ae];congr 1;omega
   rw[this,lL (by omega)];simp[kw,show i*z+j<l.length by omega]
structure Rs{α:Type}(z:Nat)(f:α->List AV)(H:Hp)(v:AV)(l:List α):Prop where
 len:aF v=.val (iN (l.length))
 at':∀ i (h:i<l.length),∃b o,aG z v (iN i)=.val (.ptr b o)/\b<H.nx/\In v b/\jG (H.get b) o z=some (f l[i])/\∀ j (h:j<(f l[i]).length),bK (H.get b) (o+j)=.val (f l[i])[j]
theorem Rs.gH{α:Type}{f:α->List AV}{v:AV}{l:List α}(h:Rs z f H v l)(a:Fm S H H')(g:∀ b,In v b->¬ S b):Rs z f H' v l:=⟨h.len,fun i k=>by obtain⟨b,o,n,c,d,p,q⟩:=h.at' i k;have e:=a.get b c (g b d);exact⟨b,o,n,lq c a.nx,d,by rw[e];exact p,fun j m=>by rw[e];exact q j m⟩⟩
theorem Rs.fm{α:Type}{f:α->List AV}{v:AV}{l:List α}(h:Rs z f H v l)(a:Fm No H H'):Rs z f H' v l:=h.gH a fun _ _ h=>h
structure Ac{α:Type}(z:Nat)(f:α->List AV)(H0 H:Hp)(v:AV)(l:List α):Prop where
 gl:Gl z H v l.length (l.flatMap f)
 fm:Fm No H0 H
 nw:∀ b,In v b->H0.nx<=b
theorem Ac.nil{α:Type}(z:Nat)(f:α->List AV)(h:Fm No H0 H):Ac z f H0 H .aA ([]:List α):=⟨Gl.nil z H,h,fun b a=>by obtain⟨_,_,_,_,h⟩:=a;cases h⟩
theorem Ac.no{α:Type}{f:α->List AV}{v:AV}{l:List α}(h:Ac z f H0 H v l)(a:Fm No H H'):Ac z f H0 H' v l:=⟨h.gl.no a,h.fm.trans a,h.nw⟩
theorem Ac.bS{α:Type}{f:α->List AV}{v:AV}{l:List α}(h:Ac z f H0 H v l):aF v=.val (iN (l.length)):=h.gl.bS
theorem Ac.add{α:Type}{f:α->List AV}{v:AV}{l:List α}(h:Ac z f H0 H v l)(x:α)(w:Nat)(o:(f x).length=z)(a:(l.length+1)*w<=1099511627776)(d:l.length+1<=1099511627776):Ok (lI z w H v (some ⟨1,f x⟩)) fun g H'=>Ac z f H0 H' g (l++[x]):=by
 obtain⟨H',e,j,_,m,nx'⟩:=h.gl.append (k:=1) (w:=w) (x:=f x) (by omega) (by omega) a d;refine⟨_,H',e,?_,h.fm.then m fun c p i=>by have:=h.nw c i;omega,fun b a=>?_⟩
 ·simp_all
 ·obtain⟨_,_,_,_,n⟩:=a;cases n;exact h.fm.nx
theorem qgg{α:Type}{z:Nat}{f:α->List AV}(b:∀ x,(f x).length=z):∀(l:List α) (i:Nat) (h:i<l.length),((l.flatMap f).drop (i*z)).take z=f l[i]
 | [],_,h=>by simp at h
 |a::l,0,_=>by simp_all
 |a::l,i+1,h=>by rw[xF,xk,zu,Nat.add_comm,<-lAB,List.drop_left' (b a)];exact qgg b l i (by simpa using h)
theorem Gl.rs{α:Type}{f:α->List AV}(c:∀ x,(f x).length=z){v:AV}{l:List α}(h:Gl z H v l.length (l.flatMap f)):Rs z f H v l:=⟨h.bS,fun i d=>by
 obtain⟨b,o,g,k,m,e,n⟩:=h.atN d;rw[qgg c l i d]at e;refine⟨b,o,g,k,m,e,fun j a=>?_⟩;rw[n j (by rw[c]at a;exact a)];have:(f l[i])[j]? =(l.flatMap f)[i*z+j]?:=by rw[<-qgg c l i d,lAE,kz (by rw[c]at a;exact a),ae]
 rw[lL a]at this;rw[kw,<-this];rfl⟩
theorem Ac.rs{α:Type}{f:α->List AV}(a:∀ x,(f x).length=z){v:AV}{l:List α}(h:Ac z f H0 H v l):Rs z f H v l:=h.gl.rs a
theorem Gl.lt{v:AV}(h:Gl z H v n l){b:Nat}(c:In v b):b<H.nx:=by
 obtain⟨o,d,m,e,rfl⟩:=c;rcases h.is with⟨a,_⟩|⟨f,g,i,q,L,a,_,_,_,_,j⟩
 ·cases a
 ·simp_all
structure nQ{α:Type}(z:Nat)(f:α->List AV)(S:Nat->Prop)(H0 H:Hp)(v:AV)(l:List α):Prop where
 gl:Gl z H v l.length (l.flatMap f)
 fm:Fm S H0 H
 nw:∀ b,In v b->S b\/H0.nx<=b
theorem nQ.no{α:Type}{f:α->List AV}{v:AV}{l:List α}(h:nQ z f S H0 H v l)(a:Fm No H H'):nQ z f S H0 H' v l:=⟨h.gl.no a,h.fm.then a fun _ _ h=>absurd h id,h.nw⟩
theorem nQ.bS{α:Type}{f:α->List AV}{v:AV}{l:List α}(h:nQ z f S H0 H v l):aF v=.val (iN (l.length)):=h.gl.bS
theorem nQ.add{α:Type}{f:α->List AV}{v:AV}{l:List α}(h:nQ z f S H0 H v l)(x:α)(w:Nat)(o:(f x).length=z)(a:(l.length+1)*w<=1099511627776)(d:l.length+1<=1099511627776):Ok (lI z w H v (some ⟨1,f x⟩)) fun g H'=>nQ z f S H0 H' g (l++[x]):=by
 obtain⟨H',e,j,_,m,nx'⟩:=h.gl.append (k:=1) (w:=w) (x:=f x) (by omega) (by omega) a d;refine⟨_,H',e,?_,h.fm.then m fun c p i=>?_,fun b a=>?_⟩
 ·simp_all
 ·rcases h.nw c i with h|h
  ·exact h
  ·omega
 ·obtain⟨_,_,_,_,n⟩:=a;cases n;exact .inr h.fm.nx
theorem Ac.start{α:Type}{f:α->List AV}{v:AV}{l:List α}(h:Ac z f H0 H v l):nQ z f (In v) H H v l:=⟨h.gl,Fm.refl _ _,fun _ h=>.inl h⟩
theorem Ac.old{α:Type}{f:α->List AV}{v:AV}{l:List α}(h:Ac z f H0 H v l)(a:Fm (In v) H H'):Fm No H0 H':=h.fm.then a fun c d b=>by have:=h.nw c b;omega
theorem Ac.fin{α:Type}{f:α->List AV}{v d:AV}{l e:List α}(h:Ac z f H0 H v l)(a:nQ z f (In v) H H' d e):Ac z f H0 H' d e:=⟨a.gl,h.old a.fm,fun b g=>by
 rcases a.nw b g with c|c
 ·exact h.nw b c
 ·exact rq h.fm.nx c⟩
end Go.Di
end
noncomputable section
namespace Go.Di
open Go.Ev
variable {C:Nat->Ev.Call}
variable {H H' H0 H1:Hp} {S:Nat->Prop} {a i j k m n z:Nat} {O:Ev.Call} {cs l:List AV} {neg:Bool} {sv:AV}
structure SS where
 n:Nat
 a:Nat
 deriving DecidableEq
def SS.v(s:SS):AV:=.str s.n s.a
def sE:SS:=⟨0,0⟩
def sU:SS:=⟨4,1919251317⟩
def lvl(n:Nat):Nat:=[0,1,1,2].getD (n%4) 0
def fD(n:Nat):SS:=⟨2,12402+256*(n%4)⟩
def bY(n:Nat):SS:=⟨1,97+n%3⟩
def bD(L:List (List Nat)):Nat:=min L.length 12
def eD(L:List (List Nat))(n i:Nat):Nat:=(L.getD n []).getD i 0
structure Rl(H:Hp)(v:AV)(l:List AV):Prop where
 len:aF v=.val (iN (l.length))
 at':∀ i (h:i<l.length),∃b o,aG 1 v (iN i)=.val (.ptr b o)/\b<H.nx/\bK (H.get b) o=.val l[i]
theorem Rl.fm{v:AV}(h:Rl H v l)(f:Fm No H H'):Rl H' v l:=⟨h.len,fun i c=>by obtain⟨b,o,d,a,e⟩:=h.at' i c;exact⟨b,o,d,lq a f.nx,by rw[f.keep a];exact e⟩⟩
def yX(l:List Nat):List AV:=l.map fun x=>.int .u8 (.ofNat x)
structure gT(H:Hp)(v:AV)(L:List (List Nat)):Prop where
 flat:vL v=true
 ex:∃ ws:List AV,Rl H v ws/\ws.length=L.length/\∀ i (h:i<ws.length) (h':i<L.length),Rl H ws[i] (yX L[i])
 lt:∀ l∈L,∀x∈l,x<256
theorem gT.fm{v:AV}{L:List (List Nat)}(h:gT H v L)(f:Fm No H H'):gT H' v L:=by obtain⟨ws,c,d,e⟩:=h.ex;exact⟨h.flat,⟨ws,c.fm f,d,fun i a b=>(e i a b).fm f⟩,h.lt⟩
theorem gT.len{v:AV}{L:List (List Nat)}(h:gT H v L):aF v=.val (iN (L.length)):=by obtain⟨ws,a,b,_⟩:=h.ex;rw[a.len,b]
theorem gT.at{v:AV}{L:List (List Nat)}(h:gT H v L)(a:i<L.length):∃ b o w,aG 1 v (iN i)=.val (.ptr b o)/\b<H.nx/\bK (H.get b) o=.val w/\Rl H w (yX L[i]):=by obtain⟨ws,c,j,d⟩:=h.ex;obtain⟨b,o,e,f,g⟩:=c.at' i (by omega);exact⟨b,o,ws[i]'(by omega),e,f,g,d i (by omega) a⟩
theorem zdj(n a:Nat):zT (.str n a)=some [.str n a]:=id rfl
theorem z6c(x:List AV):bB x 4=x++(x++(x++x)):=id (by show x++(x++(x++(x++[])))=_;rw[ut])
attribute [go_sem] zdj z6c
theorem aUD(a b:Nat):pK nN (iN a) [iN b]=.val (iN ((min a b))):=by
 show R0.val (.int .i64 (bif oU (.ofNat b) (.ofNat a)then .ofNat b else .ofNat a))=_;rw[qek];by_cases h:b<a
 ·rw[qw (by simp only[qi];omega),Nat.min_eq_right (by omega)];rfl
 ·rw[uA (by simp only[qi];omega),yz (by omega)];rfl
theorem qk1(a:aV C)(b:1<=k){v:AV}{L:List (List Nat)}(h:gT H v L):Ok (C k (.f 25) [.agg [v]] H) fun r H'=>r=iN ((bD L))/\Fm No H H':=by obtain⟨j,rfl⟩:=aU b;rw[(a j).zAn];unfold zAn z0r;have e:=h.len;simp(disch:=go_size)only[go_sem,rB,rI,rK,rL,rN,rS,r6,e,aUD];exact Ok.ret ⟨rfl,by(repeat(first|exact Fm.refl _ _|assumption|refine Fm.push ?_ _|refine Fm.fC ?_ (by go_size)|refine Fm.aD ?_ _ _ (by go_size)))⟩
theorem at4{α:Type}(a b c d:α)(n:Nat):[a,b,c,d][n%4]? =some ([a,b,c,d].getD (n%4) a):=by
 have e:n%4<4:=xy _ (by omega)
 match n%4,e with
 |0,_|1,_|2,_|3,_=>rfl
theorem at3{α:Type}(a b c:α)(n:Nat):[a,b,c][n%3]? =some ([a,b,c].getD (n%3) a):=by
 have d:n%3<3:=xy _ (by omega)
 match n%3,d with
 |0,_|1,_|2,_=>rfl
theorem qel(a:aV C)(b:1<=k)(n:Nat)(d:n<1000000)(H:Hp):Ok (C k (.f 59) [iN n] H) fun r H'=>r=iN ((lvl n))/\Fm No H H':=by
 obtain⟨j,rfl⟩:=aU b;rw[(a j).zBh];unfold zBh z0b;have c:n%4<4:=xy _ (by omega);simp(disch:=go_size)only[go_sem,rB,rI,rK,rL,rN,rS,r6,at4];refine Ok.ret ⟨?_,by(repeat(first|exact Fm.refl _ _|assumption|refine Fm.push ?_ _|refine Fm.fC ?_ (by go_size)|refine Fm.aD ?_ _ _ (by go_size)))⟩;unfold lvl
 match n%4,c with
 |0,_|1,_|2,_|3,_=>rfl
theorem qzt(a:aV C)(b:1<=k)(n:Nat)(d:n<1000000)(H:Hp):Ok (C k (.f 28) [iN n] H) fun r H'=>r=(fD n).v/\Fm No H H':=by
 obtain⟨j,rfl⟩:=aU b;rw[(a j).zAq];unfold zAq z0p;have c:n%4<4:=xy _ (by omega);simp(disch:=go_size)only[go_sem,rB,rI,rK,rL,rN,rS,r6,at4];refine Ok.ret ⟨?_,by(repeat(first|exact Fm.refl _ _|assumption|refine Fm.push ?_ _|refine Fm.fC ?_ (by go_size)|refine Fm.aD ?_ _ _ (by go_size)))⟩;unfold fD SS.v
 match n%4,c with
 |0,_|1,_|2,_|3,_=>rfl
theorem qms(a:aV C)(b:1<=k)(n:Nat)(d:n<1000000)(H:Hp):Ok (C k (.f 26) [iN n] H) fun r H'=>r=(bY n).v/\Fm No H H':=by
 obtain⟨j,rfl⟩:=aU b;rw[(a j).zAo];unfold zAo z0q;have c:n%3<3:=xy _ (by omega);simp(disch:=go_size)only[go_sem,rB,rI,rK,rL,rN,rS,r6,at3];refine Ok.ret ⟨?_,by(repeat(first|exact Fm.refl _ _|assumption|refine Fm.push ?_ _|refine Fm.fC ?_ (by go_size)|refine Fm.aD ?_ _ _ (by go_size)))⟩;unfold bY SS.v
 match n%3,c with
 |0,_|1,_|2,_=>rfl
theorem q7e(t:aV C)(u:1<=k){v:AV}{L:List (List Nat)}(h:gT H v L)(l:n<L.length):Ok (C k (.f 60) [.agg [v],iN n,iN i] H) fun r H'=>r=.int .u8 (.ofNat (eD L n i))/\Fm No H H':=by
 obtain⟨j,rfl⟩:=aU u;rw[(t j).zBi];unfold zBi z0a;have a:Fm No H (aN H (aB 0 [v])):=by exact mG
 obtain⟨b,o,w,m,y,p,q⟩:=(h.fm a).at l;have c:=q.len;have d:(yX L[n]).length=L[n].length:=by simp[yX]
 rw[d]at c;have e:L.getD n []=L[n]:=by rw[kw,lL l];rfl
 by_cases g:i<L[n].length
 ·obtain⟨z,A,x,B,s⟩:=q.at' i (by omega);have f:(yX L[n])[i]'(by omega)=.int .u8 (.ofNat (eD L n i)):=by
   unfold eD;rw[e,kw,lL g];simp[yX]
  rw[f]at s;simp(disch:=omega)only[go_sem,seval,m,p,c,g,x,s];exact Ok.ret ⟨rfl,a⟩
 ·have f:eD L n i=0:=by
   unfold eD;simp_all
  simp(disch:=omega)only[go_sem,seval,m,p,c,g];rw[f];exact Ok.ret ⟨rfl,a⟩
def ruV(k:Nat)(r t:SS)(a:AV):AV:=.agg [.int .u8 (.ofNat k),r.v,t.v,a]
def sC(s:SS):List AV:=[s.v]
theorem zb5(H:Hp)(b o n a:Nat):jX H (.ptr b o) (.str n a)=storeAt H b o [.str n a] .undef:=id rfl
attribute [go_sem] zb5
theorem qgc(a:aV C)(b:1<=k)(neg:Bool)(H:Hp):Ok (C k (.f 56) [.bool neg] H) fun r H'=>r=(if neg then ruV 2 (fD 0) sE .aA else ruV 1 sE sE .aA)/\Fm No H H':=by
 obtain⟨j,rfl⟩:=aU b;rw[(a j).zBe];unfold zBe z0f;cases neg
 ·simp only[go_sem];unfold zwr;simp(disch:=omega)only[go_sem,seval];exact Ok.ret ⟨rfl,by(repeat(first|exact Fm.refl _ _|assumption|refine Fm.push ?_ _|refine Fm.fC ?_ (by go_size)|refine Fm.aD ?_ _ _ (by go_size)))⟩
 ·simp(disch:=omega)only[go_sem,seval];exact Ok.ret ⟨rfl,by(repeat(first|exact Fm.refl _ _|assumption|refine Fm.push ?_ _|refine Fm.fC ?_ (by go_size)|refine Fm.aD ?_ _ _ (by go_size)))⟩
def qlv(n k:Nat)(neg:Bool):Bool:=decide (lvl k<lvl n)||(!neg&&decide (lvl k=lvl n))
theorem zmv(a:aV C)(f:2<=k)(n m:Nat)(d:n<1000000)(e:m<1000000)(neg:Bool)(H:Hp):Ok (C k (.f 89) [iN n,iN m,.bool neg] H) fun r H'=>r=.bool (qlv n m neg)/\Fm No H H':=by
 obtain⟨j,rfl⟩:=aU f;rw[(a j).zBt];refine Ok.ve (qel a (k:=j) (by omega) m e H) ?_;rintro _ H1 ⟨rfl,b⟩;refine Ok.ve (qel a (k:=j) (by omega) n d H1) ?_;rintro _ g ⟨rfl,c⟩;unfold qlv;by_cases h:lvl m<lvl n
 ·have hd:(lvl m<lvl n)=True:=zg h;simp only[go_sem,hd];exact Ok.ret ⟨by simp,b.trans c⟩
 ·cases neg
  ·simp only[go_sem,h];refine Ok.ve (qel a (k:=j) (by omega) m e g) ?_;rintro _ i ⟨rfl,l⟩;simp only[go_sem];refine Ok.ve (qel a (k:=j) (by omega) n d i) ?_;rintro _ p ⟨rfl,o⟩;simp only[go_sem];exact Ok.ret ⟨by simp,((b.trans c).trans l).trans o⟩
  ·simp only[go_sem,h];exact Ok.ret ⟨by simp,b.trans c⟩
def rg(a b:Nat):List Nat:=(List.range b).drop a
theorem qkt(h:a<=i):rg a (i+1)=rg a i++[i]:=by unfold rg;rw[oz,xm (by simpa using h)]
theorem qw3(a:Nat):rg a a=[]:=by unfold rg;rw[uy (by simp)]
theorem qga{a b x:Nat}:x∈rg a b↔a<=x/\x<b:=by
 unfold rg;rw[mg];constructor
 ·rintro ⟨i,h,rfl⟩;simp at h ⊢;omega
 ·intro h;exact⟨x-a,by simp;omega,by simp;omega⟩
theorem qll(a b:Nat):(rg a b).length=b-a:=by unfold rg;simp
def cmpL(m n:Nat)(neg:Bool):List SS:=((rg (n / 4*4) (min m (n / 4*4+4))).filter (qlv n · neg)).map fD
theorem zku(s:SS):(sC s).length=1:=rfl
structure yR(H:Hp)(b:Nat)(v:AV):Prop where
 lt:b<H.nx
 is:H.get b=aB 0 [v]
theorem yR.fm{b:Nat}{v:AV}(h:yR H b v)(f:Fm No H H'):yR H' b v:=⟨lq h.lt f.nx,(f.keep h.lt).trans h.is⟩
theorem qfr(b:aV C){j:Nat}(s:2<=j){v:AV}{L:List (List Nat)}{n cb:Nat}{neg:Bool}(t:n<100000){H1:Hp}{Q:pH}{q:pB}(f:gT H1 v L)(g:yR H1 cb v)(e:∀ w H,Ac 1 sC H1 H w (cmpL (bD L) n neg)->Ok (q w H) Q):∀(k i:Nat) (w:AV) (H:Hp),n / 4*4<=i->i<=max (min (bD L) (n / 4*4+4)) (n / 4*4)->n / 4*4+4-i<k->Ac 1 sC H1 H w (((rg (n / 4*4) i).filter (qlv n · neg)).map fD) -> Ok (qvc (C j) q (iN n) (.bool neg) (.ptr cb 0) k w (iN i) H) Q
 |0,i,_,_,_,_,h,_=>by omega
 |k+1,i,w,H,hi,hi2,hk,hw=>by
  show Ok (q46 (C j) _ _ _ _ (qvc (C j) _ _ _ _ k) _ _ H) Q;unfold q46;have l:=g.fm hw.fm;have x:=l.is;simp only[go_sem,x];refine Ok.ve (qk1 b (k:=j) (by omega) (f.fm hw.fm)) ?_;rintro _ r ⟨rfl,z⟩;have a:=hw.no z;by_cases d:i<bD L/\i<n / 4*4+4
  ·obtain⟨c,p⟩:=d;simp(disch:=go_size)only[go_sem,rB,rI,rK,rL,rN,rS,r6,c,p];refine Ok.ve (zmv b (k:=j) (by omega) n i (by omega) (by omega) neg r) ?_;rintro _ u ⟨rfl,A⟩;have m:=a.no A;have I:=qkt hi;cases K:qlv n i neg
   ·simp only[go_sem];unfold qvd;simp(disch:=go_size)only[go_sem,rB,rI,rK,rL,rN,rS,r6];refine qfr b s t f g e k (i+1) w u (by omega) (by omega) (by omega) ?_;simp_all
   ·simp only[go_sem];refine Ok.ve (qzt b (k:=j) (by omega) i (by omega) u) ?_;rintro _ B ⟨rfl,D⟩;have o:=m.no D;unfold SS.v;simp(disch:=omega)only[go_sem,seval];have J:(((rg (n / 4*4) i).filter (qlv n · neg)).map fD).length<=4:=by
     rw[pz];refine rq (bu _ _) ?_;rw[qll];omega
    refine Ok.ve ((o.no ((Fm.refl No B).push (aB 0 [.str (fD i).n (fD i).a]))).add (fD i) 16 rfl (by omega) (by omega)) ?_;intro E F G;unfold qvd;simp(disch:=go_size)only[go_sem,rB,rI,rK,rL,rN,rS,r6];refine qfr b s t f g e k (i+1) E F (by omega) (by omega) (by omega) ?_;simp_all
  ·have y:rg (n / 4*4) i=rg (n / 4*4) (min (bD L) (n / 4*4+4)):=by
    by_cases h:n / 4*4<=min (bD L) (n / 4*4+4)
    ·congr 1;omega
    ·unfold rg;rw[uy (by simp;omega),uy (by simp;omega)]
   rw[y]at a;by_cases c:i<bD L
   ·have p:¬ i<n / 4*4+4:=fun h=>d ⟨c,h⟩;simp(disch:=go_size)only[go_sem,rB,rI,rK,rL,rN,rS,r6,c,p];exact e w r a
   ·simp only[go_sem,c];exact e w r a
theorem zur(x:Nat)(h:x<256):qqv .i64 (.int .u8 (.ofNat x))=.val (iN x):=by show R0.val (.int .i64 (uU .i64 (.ofNat x)))=_;rw[qgk _ (by omega)]
theorem zu3(n:Nat)(h:n<256):uU .u8 (.ofNat n)=.ofNat n:=by show(bif Nat.blt n 256 then _ else _)=_;rw[blt_eq,qw h];rfl
theorem z6n(a b:Nat)(h:0<b)(c:a<256):gU (mM .quo).f (.int .u8 (.ofNat a)) (.int .u8 (.ofNat b))=.val (.int .u8 (.ofNat (a / b))):=by show(bif qY (.ofNat b) 0 then R0.bad else .val (.int .u8 (uU .u8 (Int.tdiv (.ofNat a) (.ofNat b)))))=_;rw[qfa,uA (by simp only[qi];omega)];show R0.val (.int .u8 (uU .u8 (.ofNat (a / b))))=_;rw[zu3 _ (lAZ (Nat.div_le_self _ _) c)]
theorem z5t(n j:Nat)(k:IntKind)(h:j<=8):qzh (qi8 .shr).f (.int .u8 (.ofNat n)) (.int k (.ofNat j))=.val (.int .u8 (.ofNat (n / 2 ^ j))):=by
 show(bif oU (.ofNat j) 0 then R0.bad else .val (.int .u8 ((Int.ofNat n).fdiv (2 ^ (min j 8)))))=_;rw[qek,yz h];have a:decide ((Int.ofNat j)<0)=false:=by simp
 show R0.val (.int .u8 ((Int.ofNat n).fdiv (2 ^ j)))=_;congr 2;have b:((2:Int) ^ j)=Int.ofNat (2 ^ j):=by simp
 show Int.fdiv (n:Int) ((2 ^ j:Nat):Int)=((n / 2 ^ j:Nat):Int);rw[Int.fdiv_eq_ediv_of_nonneg _ (Int.natCast_nonneg _)];rfl
attribute [go_sem] zur z6n z5t
theorem zbi{v:AV}{L:List (List Nat)}(h:gT H v L)(n i:Nat):eD L n i<256:=by
 unfold eD;rw[kw,kw];cases a:L[n]? with
 |none=>simp
 |some l=>
  simp only[Option.getD_some];cases b:l[i]? with
  |none=>simp
  |some x=>exact h.lt l (uB a) x (uB b)
structure At(m n:Nat)(neg:Bool):Prop where
 lt:n<m
 le:m<=12
 up:neg=true->0<lvl n
theorem aTm(q:Nat):lvl (q*4)=0:=by unfold lvl;rw[Nat.mul_mod_left];rfl
theorem qx3(h:At m n neg):0<(cmpL m n neg).length:=by
 unfold cmpL;rw[pz];refine List.length_pos_of_mem (a:=n / 4*4) ?_;rw[xg,qga];have:=h.lt;refine⟨by omega,?_⟩;unfold qlv;rw[aTm];cases neg with
 |true=>simp[h.up rfl]
 |false=>simp;omega
theorem Rs.at1{α:Type}{f:α->List AV}{g:α->AV}(e:∀ x,f x=[g x]){v:AV}{l:List α}(h:Rs 1 f H v l)(a:i<l.length):∃b o,aG 1 v (iN i)=.val (.ptr b o)/\b<H.nx/\bK (H.get b) o=.val (g l[i]):=by obtain⟨b,o,c,d,_,j,k⟩:=h.at' i a;refine⟨b,o,c,d,?_⟩;simp_all
theorem qp9(l:aV C)(q:4<=k){v:AV}{L:List (List Nat)}{n c:Nat}(s:gT H v L)(d:At (bD L) n neg)(A:c<256):Ok (C k (.f 57) [.agg [v],iN n,.int .u8 (.ofNat c),.bool neg] H) fun r H'=>
   r=ruV 2 ((cmpL (bD L) n neg).getD (c%(cmpL (bD L) n neg).length) sE) sE .aA/\Fm No H H':=by
 obtain⟨j,rfl⟩:=aU q;rw[(l j).zBf];unfold zBf z0e;have u:=qx3 d;have B:=d.lt;have x:=d.le;simp(disch:=go_size)only[go_sem,rB,rI,rK,rL,rN,rS,r6];unfold zhr;rw[bW];have m:Fm No H (aN (aN H (aB 0 [v])) (aB 0 [.int .u8 (.ofNat 0),.str 0 0,.str 0 0,.aA])):=by exact fP2
 have f:Fm No (aN H (aB 0 [v])) (aN (aN H (aB 0 [v])) (aB 0 [.int .u8 (.ofNat 0),.str 0 0,.str 0 0,.aA])):=by exact mG
 have h:yR (aN H (aB 0 [v])) H.nx v:=⟨by(go_size),by simp(disch:=go_size)only[go_sem,rB,rI,rK,rL,rN,rS,r6]⟩;refine qfr l (by omega) (by omega) (s.fm m) (h.fm f) (fun w t e=>?_) bL (n / 4*4) .aA _ (lh _) (by omega) (by rw[bZ];omega) ?_
 ·unfold zhq;have y:=e.bS;have i:=e.fm;have a:c%(cmpL (bD L) n neg).length<(cmpL (bD L) n neg).length:=xy _ u;obtain⟨b,o,z,E,p⟩:=(e.rs zku).at1 (g:=SS.v) (fun _=>rfl) a;have k2:t.get (H.nx+1)=aB 0 [.int .u8 (.ofNat 0),.str 0 0,.str 0 0,.aA]:=(i.keep (by go_size)).trans (by simp(disch:=go_size)only[go_sem,seval]);unfold SS.v at p;have D:=i.nx;simp(disch:=omega)only[go_sem,seval,y,z,p,k2];refine Ok.ret ⟨?_,(m.trans i).aD _ _ (by omega)⟩;rw[kw,lL a];rfl
 ·rw[qw3];exact Ac.nil _ _ (Fm.refl _ _)
structure jP where
 sp:SS
 rl:SS
 deriving DecidableEq
def tC(t:jP):List AV:=[t.sp.v,t.rl.v]
theorem qi6(t:jP):(tC t).length=2:=rfl
def nS(m:Nat):Nat:=min 3 ((m+3) / 4)
def tO(c i:Nat):List jP:=⟨sU,sE⟩::((rg 0 i).filter fun i=>decide (c / 2 ^ i%2=1)).map fun i=>⟨bY i,sE⟩
def qG(m n:Nat):List jP:=((rg 0 m).filter fun k=>decide (lvl k<=lvl n)).map fun k=>⟨bY (k / 4),fD k⟩
def kE(L:List (List Nat))(n:Nat):List jP:=
 tO (eD L n 0) (nS (bD L))++if eD L n 1%2=1 then[(qG (bD L) n).getD (eD L n 1 / 2%(qG (bD L) n).length) ⟨sE,sE⟩]else[]
theorem Ac.one{α:Type}{f:α->List AV}(x:α)(a:(f x).length=z)(h:Fm No H0 H):Ac z f H0 (aN H (aB 0 (f x))) (.sl H.nx 0 1 1 true) [x]:=
 ⟨⟨by simp[a],.inr ⟨_,_,_,_,_,rfl,jA _ _,gy _,by simp,.inl rfl,by rw[np];omega⟩⟩,h.push _,fun b c=>by obtain⟨_,_,_,_,d⟩:=c;cases d;exact h.nx⟩
theorem qh4(a:aV C){j:Nat}(p:2<=j){v:AV}{L:List (List Nat)}{n cb:Nat}(r:n<100000){H1:Hp}{Q:pH}{q:pB}(e:gT H1 v L)(f:yR H1 cb v)(s:∀ w H,Ac 2 tC H1 H w (qG (bD L) n)->Ok (q w H) Q):∀(k i:Nat) (w:AV) (H:Hp),i<=bD L->bD L-i<k->Ac 2 tC H1 H w (qG i n) -> Ok (qvw (C j) q (iN n) (.ptr cb 0) k w (iN i) H) Q
 |0,i,_,_,_,h,_=>by omega
 |k+1,i,w,H,hi,hk,hw=>by
  show Ok (q5o (C j) _ _ _ (qvw (C j) _ _ _ k) _ _ H) Q;unfold q5o;have M:bD L<=12:=xh _ _;have g:=f.fm hw.fm;have x:=g.is;simp only[go_sem,x];refine Ok.ve (qk1 a (k:=j) (by omega) (e.fm hw.fm)) ?_;rintro _ y ⟨rfl,z⟩;have l:=hw.no z;by_cases c:i<bD L
  ·simp only[go_sem,c];refine Ok.ve (qel a (k:=j) (by omega) i (by omega) y) ?_;rintro _ A ⟨rfl,B⟩;refine Ok.ve (qel a (k:=j) (by omega) n (by omega) A) ?_;rintro _ u ⟨rfl,D⟩;have b:=(l.no B).no D;have t:rg 0 (i+1)=rg 0 i++[i]:=qkt (gy _);by_cases d:lvl i<=lvl n
   ·simp(disch:=go_size)only[go_sem,rB,rI,rK,rL,rN,rS,r6,d];refine Ok.ve (qms a (k:=j) (by omega) (i / 4) (by omega) u) ?_;rintro _ E ⟨rfl,F⟩;refine Ok.ve (qzt a (k:=j) (by omega) i (by omega) E) ?_;rintro _ G ⟨rfl,I⟩;have m:=(b.no F).no I;unfold SS.v;simp(disch:=omega)only[go_sem,seval];have N:(qG i n).length<=12:=by
     unfold qG;rw[pz];refine rq (bu _ _) ?_;rw[qll];omega
    refine Ok.ve ((m.no ((Fm.refl No G).push (aB 0 (tC ⟨bY (i / 4),fD i⟩)))).add ⟨bY (i / 4),fD i⟩ 32 rfl (by omega) (by omega)) ?_;intro J K o;unfold qvz;simp(disch:=go_size)only[go_sem,rB,rI,rK,rL,rN,rS,r6];refine qh4 a p r e f s k (i+1) J K (by omega) (by omega) ?_;unfold qG;rw[t,ag,bf,qw d];simpa [qG] using o
   ·simp only[go_sem,d];unfold qvz;simp(disch:=go_size)only[go_sem,rB,rI,rK,rL,rN,rS,r6];refine qh4 a p r e f s k (i+1) w u (by omega) (by omega) ?_;unfold qG;rw[t,ag,bf,uA d];simpa [qG] using b
  ·have O:i=bD L:=by omega
   simp only[go_sem,c];simp_all
theorem q55(c i:Nat):(tO c i).length<=i+1:=by unfold tO;rw[gz,pz];have:=bu (fun i=>decide (c / 2 ^ i%2=1)) (rg 0 i);rw[qll]at this;omega
theorem qwq(h:n<m):0<(qG m n).length:=by unfold qG;rw[pz];refine List.length_pos_of_mem (a:=n) ?_;rw[xg,qga];simp_all
theorem Ac.trans{α:Type}{f:α->List AV}{v:AV}{l:List α}(a:Fm No H0 H1)(h:Ac z f H1 H v l):Ac z f H0 H v l:=⟨h.gl,a.trans h.fm,fun b c=>rq a.nx (h.nw b c)⟩
theorem Rs.atN{α:Type}{f:α->List AV}{v:AV}{l:List α}(h:Rs z f H v l)(a:i<l.length):∃b o,aG z v (iN i)=.val (.ptr b o)/\b<H.nx/\jG (H.get b) o z=some (f l[i]):=by obtain⟨b,o,c,d,_,e,_⟩:=h.at' i a;exact⟨b,o,c,d,e⟩
theorem zj3(i:aV C)(z:2<=j){v:AV}{L:List (List Nat)}{n cb:Nat}(q:n<bD L)(g:gT H v L)(l:yR H cb v){w:AV}(A:Ac 2 tC H0 H w (tO (eD L n 0) (nS (bD L)))):Ok (qvy (C j) (iN n) (.ptr cb 0) w H) fun r H'=>Ac 2 tC H0 H' r (kE L n):=by
 have K:bD L<=12:=xh _ _;have a:n<L.length:=lq q (eQ _ _);unfold qvy;have B:=l.is;simp only[go_sem,B];refine Ok.ve (q7e i (k:=j) (by omega) g a) ?_;rintro _ H1 ⟨rfl,f⟩;have c:=A.no f;unfold kE;have M:=zbi g n 1;by_cases h:eD L n 1%2=1
 ·rw[kz h];simp(disch:=go_size)only[go_sem,rB,rI,rK,rL,rN,rS,r6,h];unfold zil;rw[bW];refine qh4 i z (by omega) (g.fm f) (l.fm f) (fun u J s=>?_) bL 0 .aA H1 (gy _) (by rw[bZ];omega) (Ac.nil _ _ (Fm.refl _ _));unfold q5m;have m:=s.fm;have D:=((l.fm f).fm m).is;simp only[go_sem,D];refine Ok.ve (q7e i (k:=j) (by omega) ((g.fm f).fm m) a) ?_;rintro _ G ⟨rfl,x⟩;have d:=s.no x;have E:=d.bS;have e:eD L n 1 / 2%(qG (bD L) n).length<(qG (bD L) n).length:=xy _ (qwq q);obtain⟨b,o,I,_,y⟩:=(d.rs qi6).atN e;have F:(qG (bD L) n).getD (eD L n 1 / 2%(qG (bD L) n).length) ⟨sE,sE⟩=(qG (bD L) n)[eD L n 1 / 2%(qG (bD L) n).length]:=by
   simp_all
  rw[F];have t:=q55 (eD L n 0) (nS (bD L));have N:nS (bD L)<=3:=eQ _ _;unfold tC at y;simp(disch:=go_size)only[go_sem,rB,rI,rK,rL,rN,rS,r6,E,I,y];refine Ok.ve ((((c.no m).no x).no ((Fm.refl No G).push (aB 0 (tC (qG (bD L) n)[eD L n 1 / 2%(qG (bD L) n).length])))).add _ 32 rfl (by omega) (by omega)) ?_;intro O P p;exact Ok.ret p
 ·rw[lu h,ut];simp(disch:=go_size)only[go_sem,rB,rI,rK,rL,rN,rS,r6,h];exact Ok.ret c
theorem qh5(b:aV C){j:Nat}(p:2<=j){v:AV}{L:List (List Nat)}{n cb:Nat}(f:n<bD L){H0:Hp}{Q:pH}{q:pB}(d:gT H0 v L)(e:yR H0 cb v)(r:∀ w H,Ac 2 tC H0 H w (tO (eD L n 0) (nS (bD L)))->Ok (q w H) Q):∀(k i:Nat) (w:AV) (H:Hp),i<=nS (bD L)->3-i<k->Ac 2 tC H0 H w (tO (eD L n 0) i) -> Ok (qvv (C j) q (iN n) (.ptr cb 0) k w (iN i) H) Q
 |0,i,_,_,_,h,_=>by omega
 |k+1,i,w,H,hi,hk,hw=>by
  show Ok (q5n (C j) _ _ _ (qvv (C j) _ _ _ k) _ _ H) Q;unfold q5n;have J:bD L<=12:=xh _ _;have g:n<L.length:=lq f (eQ _ _);have K:nS (bD L)<=3:=eQ _ _;have x:=(e.fm hw.fm).is;simp(disch:=omega)only[go_sem,x];refine Ok.ve (qk1 b (k:=j) (by omega) (d.fm hw.fm)) ?_;rintro _ O ⟨rfl,A⟩;have a:=hw.no A;by_cases c:i<nS (bD L)
  ·have l:4*i<bD L:=by unfold nS at c;omega
   have s:i<3:=by omega
   simp only[go_sem,l,s];unfold zij;have y:=(e.fm a.fm).is;simp only[go_sem,y];refine Ok.ve (q7e b (k:=j) (by omega) (d.fm a.fm) g) ?_;rintro _ t ⟨rfl,B⟩;have m:=a.no B;have M:rg 0 (i+1)=rg 0 i++[i]:=qkt (gy _);by_cases u:eD L n 0 / 2 ^ i%2=1
   ·simp(disch:=omega)only[go_sem,u];refine Ok.ve (qms b (k:=j) (by omega) i (by omega) t) ?_;rintro _ D ⟨rfl,E⟩;have o:=m.no E;unfold SS.v;simp(disch:=omega)only[go_sem,seval];have N:=q55 (eD L n 0) i;refine Ok.ve ((o.no ((Fm.refl No D).push (aB 0 (tC ⟨bY i,sE⟩)))).add ⟨bY i,sE⟩ 32 rfl (by omega) (by omega)) ?_;intro F G I;unfold qvx;simp(disch:=omega)only[go_sem];refine qh5 b p f d e r k (i+1) F G (by omega) (by omega) ?_;have:tO (eD L n 0) (i+1)=tO (eD L n 0) i++[⟨bY i,sE⟩]:=by
     unfold tO;simp_all
    simp_all
   ·simp(disch:=go_size)only[go_sem,rB,rI,rK,rL,rN,rS,r6,u];unfold qvx;simp(disch:=omega)only[go_sem];refine qh5 b p f d e r k (i+1) w t (by omega) (by omega) ?_;have:tO (eD L n 0) (i+1)=tO (eD L n 0) i:=by
     unfold tO;simp_all
    simp_all
  ·have z:i=nS (bD L):=by omega
   rw[z]at a;by_cases l:4*i<bD L
   ·have s:¬ i<3:=by unfold nS at c;omega
    omega
   ·simp only[go_sem,l];simp_all
theorem q9a(b:aV C)(i:4<=k){v:AV}{L:List (List Nat)}(e:gT H v L)(g:n<bD L):Ok (C k (.f 29) [.agg [v],iN n] H) fun r H'=>Ac 2 tC H H' r (kE L n):=by
 obtain⟨j,rfl⟩:=aU i;rw[(b j).zAr];unfold zAr z0o;simp only[go_sem];unfold zik;rw[bW];have a:yR (aN H (aB 0 [v])) H.nx v:=⟨by(go_size),by simp(disch:=omega)only[go_sem,seval]⟩;have d:Fm No H (aN H (aB 0 [v])):=by exact mG
 have l:=Ac.one (z:=2) (f:=tC) (H0:=aN H (aB 0 [v])) ⟨sU,sE⟩ rfl (Fm.refl _ _);refine qh5 b (by omega) g (e.fm d) a (fun w m c=>?_) bL 0 _ _ (gy _) (by rw[bZ];omega) l;refine(zj3 b (by omega) g ((e.fm d).fm c.fm) (a.fm c.fm) (c.trans (H0:=H) d)).mono fun r H' h=>h
theorem z8l(n a m b:Nat):gX (nT .eql).f (.str n a) (.str m b)=.val (.bool (decide (n=m/\a=b))):=by show R0.val (.bool (Nat.beq n m&&Nat.beq a b))=_;rw[beq_eq,beq_eq,Bool.decide_and]
theorem z7b(n a m b:Nat):gX (nT .neq).f (.str n a) (.str m b)=.val (.bool (!decide (n=m/\a=b))):=by show R0.val (.bool (!(Nat.beq n m&&Nat.beq a b)))=_;rw[beq_eq,beq_eq,Bool.decide_and]
theorem z3a(n a:Nat):oQ 64 (.str n a) (.str n a)=true:=by show(Nat.beq n n&&Nat.beq a a)=true;simp
attribute [go_sem] z8l z7b z3a
theorem mZ(s t:SS):(s=t)↔(s.n=t.n/\s.a=t.a):=by cases s;cases t;simp
structure ArS where
 rl:SS
 to:SS
 deriving DecidableEq
def arC(x:ArS):List AV:=[.int .u8 (.ofNat 3),x.rl.v,x.to.v,.aA]
theorem z4f(t:ArS):(arC t).length=4:=rfl
def arP(n:Nat)(neg:Bool)(t:jP)(j:Nat):Bool:=decide (t.rl=sE)&&decide (t.sp=bY (j / 4))&&qlv n j neg
def xK(n:Nat)(neg:Bool)(k:Nat)(t:jP)(m:Nat):List ArS:=((rg 0 m).filter (arP n neg t)).map fun j=>⟨fD k,fD j⟩
def arK(L:List (List Nat))(n:Nat)(neg:Bool)(k:Nat):List ArS:=(kE L k).flatMap fun t=>xK n neg k t (bD L)
def mJ(L:List (List Nat))(n:Nat)(neg:Bool)(i:Nat):List ArS:=(rg (n / 4*4) i).flatMap (arK L n neg)
theorem q7k(n:Nat)(neg:Bool)(k:Nat)(t:jP)(m:Nat):(xK n neg k t m).length<=m:=by unfold xK;rw[pz];refine rq (bu _ _) ?_;rw[qll];omega
theorem zu8(n:Nat)(neg:Bool)(k:Nat)(t:jP)(i:Nat):xK n neg k t (i+1)=xK n neg k t i++if arP n neg t i then[⟨fD k,fD i⟩]else[]:=by unfold xK;rw[qkt (gy _),ag,bf];cases arP n neg t i<;>simp
theorem qdm{α β:Type}(g:α->List β)(c:Nat)(h:∀ x,(g x).length<=c):∀ l:List α,(l.flatMap g).length<=c*l.length
 | []=>by simp
 |a::l=>by rw[xF,ku,gz,Nat.mul_add,qg];have:=qdm g c h l;have:=h a;omega
theorem qed(e:aV C){j:Nat}(D:3<=j){v:AV}{L:List (List Nat)}{n cb d:Nat}{neg:Bool}(E:n<100000)(f:d<100000){S:Nat->Prop}{H0:Hp}{Q:pH}{q:pB}(r:∀ H',Fm S H0 H'->gT H' v L)(s:∀ H',Fm S H0 H'->yR H' cb v){ts:List jP}{tv:AV}(t:∀ H',Fm S H0 H'->Rs 2 tC H' tv ts){x:Nat}(u:x<ts.length){A:List ArS}(F:A.length<=1000000)(G:∀ w H,nQ 4 arC S H0 H w (A++xK n neg d ts[x] (bD L))->Ok (q w H) Q):∀(k i:Nat) (w:AV) (H:Hp),i<=bD L->bD L-i<k->nQ 4 arC S H0 H w (A++xK n neg d ts[x] i) -> Ok (qva (C j) q (iN n) (.bool neg) (.ptr cb 0) (iN d) tv (iN x) k w (iN i) H) Q
 |0,i,_,_,_,h,_=>by omega
 |k+1,i,w,H,hi,hk,hw=>by
  show Ok (q43 (C j) _ _ _ _ _ _ _ (qva (C j) _ _ _ _ _ _ _ k) _ _ H) Q;unfold q43;have hm:bD L<=12:=xh _ _;have e0:=(s _ hw.fm).is;simp only[go_sem,e0];refine Ok.ve (qk1 e (k:=j) (by omega) (r _ hw.fm)) ?_;rintro _ I ⟨rfl,f2⟩;have y:=hw.no f2;by_cases B:i<bD L
  ·simp only[go_sem,B];unfold zhm;have P:=t _ y.fm;obtain⟨b,o,e1,J,_,e3,e4⟩:=P.at' x u;have R:bK (I.get b) o=.val (.str ts[x].sp.n ts[x].sp.a):=e4 0 (by rw[qi6];omega);have T:bK (I.get b) (o+1)=.val (.str ts[x].rl.n ts[x].rl.a):=e4 1 (by rw[qi6];omega);have a:=zu8 n neg d ts[x] i;have hlen:=q7k n neg d ts[x] i;by_cases N:ts[x].rl.n=0/\ts[x].rl.a=0
   ·have g:ts[x].rl=sE:=(mZ _ _).2 N;have U:=zg N;simp(disch:=go_size)only[go_sem,rB,rI,rK,rL,rN,rS,r6,e1,R,T,U];refine Ok.kF (qms e (k:=j) (by omega) (i / 4) (by omega) I) ?_;rintro _ K ⟨rfl,z⟩;have l:bK (K.get b) o=.val (.str ts[x].sp.n ts[x].sp.a):=by rw[z.keep J];exact R
    have m:bK (K.get b) (o+1)=.val (.str ts[x].rl.n ts[x].rl.a):=by rw[z.keep J];exact T
    have V:=y.no z;unfold SS.v;by_cases O:ts[x].sp.n=(bY (i / 4)).n/\ts[x].sp.a=(bY (i / 4)).a
    ·have p:ts[x].sp=bY (i / 4):=(mZ _ _).2 O;have W:=zg O;simp only[go_sem,l,m,W];refine Ok.kF (zmv e (k:=j) (by omega) n i (by omega) (by omega) neg K) ?_;rintro _ M ⟨rfl,f4⟩;have X:bK (M.get b) o=.val (.str ts[x].sp.n ts[x].sp.a):=by rw[f4.keep (lq J z.nx)];exact l
     have Y:bK (M.get b) (o+1)=.val (.str ts[x].rl.n ts[x].rl.a):=by rw[f4.keep (lq J z.nx)];exact m
     have Z:=V.no f4;have c:arP n neg ts[x] i=qlv n i neg:=by unfold arP;rw[qw g,qw p];simp
     rw[c]at a;cases hf:qlv n i neg
     ·rw[hf]at a;unfold qka;simp(disch:=go_size)only[go_sem,rB,rI,rK,rL,rN,rS,r6];refine qed e D E f r s t u F G k (i+1) w M (by omega) (by omega) ?_;simp_all
     ·rw[hf]at a;simp only[go_sem,X,Y];refine Ok.ve (qzt e (k:=j) (by omega) d (by omega) M) ?_;rintro _ H5 ⟨rfl,f5⟩;refine Ok.ve (qzt e (k:=j) (by omega) i (by omega) H5) ?_;rintro _ H6 ⟨rfl,f6⟩;have hw6:=(Z.no f5).no f6;unfold SS.v;simp(disch:=omega)only[go_sem,seval];have hll:(A++xK n neg d ts[x] i).length<=1000000+i:=by rw[ku];omega
      refine Ok.ve ((hw6.no ((Fm.refl No H6).push (aB 0 (arC ⟨fD d,fD i⟩)))).add ⟨fD d,fD i⟩ 64 rfl (by omega) (by omega)) ?_;intro w7 H7 hw7;unfold qka;simp(disch:=go_size)only[go_sem,rB,rI,rK,rL,rN,rS,r6];refine qed e D E f r s t u F G k (i+1) w7 H7 (by omega) (by omega) ?_;simp_all
    ·have p:¬ ts[x].sp=bY (i / 4):=fun h=>O ((mZ _ _).1 h);have c:arP n neg ts[x] i=false:=by unfold arP;rw[uA p];simp
     rw[c]at a;simp only[go_sem,l,m,O];unfold qka;simp(disch:=go_size)only[go_sem,rB,rI,rK,rL,rN,rS,r6];refine qed e D E f r s t u F G k (i+1) w K (by omega) (by omega) ?_;simp_all
   ·have g:¬ ts[x].rl=sE:=fun h=>N ((mZ _ _).1 h);have c:arP n neg ts[x] i=false:=by unfold arP;rw[uA g];simp
    rw[c]at a;simp only[go_sem,e1,R,T,N];unfold qka;simp(disch:=go_size)only[go_sem,rB,rI,rK,rL,rN,rS,r6];refine qed e D E f r s t u F G k (i+1) w I (by omega) (by omega) ?_;simp_all
  ·have he:i=bD L:=by omega
   simp only[go_sem,B];simp_all
theorem zb2(L:List (List Nat))(n:Nat):0<(kE L n).length:=by unfold kE tO;simp
theorem qgo(L:List (List Nat))(n:Nat):(kE L n).length<=5:=by unfold kE;have:=q55 (eD L n 0) (nS (bD L));have a:nS (bD L)<=3:=eQ _ _;split<;>simp<;>omega
theorem qqf(l:aV C){j:Nat}(m:3<=j){v:AV}{L:List (List Nat)}{n cb b:Nat}{neg:Bool}(o:n<100000)(c:b<100000){S:Nat->Prop}{H0:Hp}{Q:pH}{q:pB}(p:∀ H',Fm S H0 H'->gT H' v L)(r:∀ H',Fm S H0 H'->yR H' cb v){ts:List jP}{tv:AV}(e:∀ H',Fm S H0 H'->Rs 2 tC H' tv ts)(f:ts.length<=5){A:List ArS}(u:A.length<=900000)(x:∀ w H,nQ 4 arC S H0 H w (A++ts.flatMap fun t=>xK n neg b t (bD L))->Ok (q w H) Q):∀(k i:Nat) (w:AV) (H:Hp),i<=ts.length->ts.length-i<k->nQ 4 arC S H0 H w (A++(ts.take i).flatMap fun t=>xK n neg b t (bD L)) -> Ok (qn3 (C j) q (iN n) (.bool neg) (.ptr cb 0) (iN b) tv k w (iN i) H) Q
 |0,i,_,_,_,h,_=>by omega
 |k+1,i,w,H,hi,hk,hw=>by
  show Ok (q44 (C j) _ _ _ _ _ _ (qn3 (C j) _ _ _ _ _ _ k) _ _ H) Q;unfold q44;have B:bD L<=12:=xh _ _;have s:=(e _ hw.fm).len;by_cases a:i<ts.length
  ·simp only[go_sem,s,a];unfold zhl zhn;rw[bW];have d:(A++(ts.take i).flatMap fun t=>xK n neg b t (bD L)).length<=1000000:=by
    rw[ku];have D:=qdm (fun t=>xK n neg b t (bD L)) 12 (fun t=>rq (q7k n neg b t _) B) (ts.take i);have E:(ts.take i).length<=5:=by rw[ry];omega
    omega
   refine qed l m o c p r e a d (fun y z g=>?_) bL 0 w H (gy _) (by rw[bZ];omega) ?_
   ·unfold q41;simp(disch:=omega)only[go_sem];refine qqf l m o c p r e f u x k (i+1) y z (by omega) (by omega) ?_;rw[lw a,vk,vw,<-rf];exact g
   ·have:xK n neg b ts[i] 0=[]:=by unfold xK;rw[qw3];rfl
    simp_all
  ·have F:i=ts.length:=by omega
   simp only[go_sem,s,a];simp_all
theorem zu6(L:List (List Nat))(n:Nat)(neg:Bool)(i:Nat)(h:i<=12):(mJ L n neg i).length<=60*12:=by unfold mJ;have a:bD L<=12:=xh _ _;have b:=qdm (arK L n neg) 60 (fun k=>by unfold arK;have b:=qdm (fun t=>xK n neg k t (bD L)) 12 (fun t=>rq (q7k n neg k t _) a) (kE L k);have c:=qgo L k;omega) (rg (n / 4*4) i);have c:=qll (n / 4*4) i;omega
theorem qtu(l:aV C){j:Nat}(x:4<=j){v:AV}{L:List (List Nat)}{n cb:Nat}{neg:Bool}(t:n<100000){H1:Hp}{Q:pH}{q:pB}(m:gT H1 v L)(o:yR H1 cb v)(p:∀ w H,Ac 4 arC H1 H w (mJ L n neg (min (bD L) (n / 4*4+4)))->Ok (q w H) Q):∀(k i:Nat) (w:AV) (H:Hp),n / 4*4<=i->i<=max (min (bD L) (n / 4*4+4)) (n / 4*4)->n / 4*4+4-i<k->Ac 4 arC H1 H w (mJ L n neg i) -> Ok (qn4 (C j) q (iN n) (.bool neg) (.ptr cb 0) k w (iN i) H) Q
 |0,i,_,_,_,_,h,_=>by omega
 |k+1,i,w,H,hi,hi2,hk,hw=>by
  show Ok (q45 (C j) _ _ _ _ (qn4 (C j) _ _ _ _ k) _ _ H) Q;unfold q45;have K:bD L<=12:=xh _ _;have B:=(o.fm hw.fm).is;simp only[go_sem,B];refine Ok.ve (qk1 l (k:=j) (by omega) (m.fm hw.fm)) ?_;rintro _ u ⟨rfl,I⟩;have a:=hw.no I;by_cases g:i<bD L/\i<n / 4*4+4
  ·obtain⟨d,e⟩:=g;simp(disch:=omega)only[go_sem,d,e];unfold zhk;have D:=(o.fm a.fm).is;simp only[go_sem,seval,D];refine Ok.ve (q9a l (k:=j) (by omega) (m.fm a.fm) d) ?_;intro tv J s;have c:=a.no s.fm;unfold zho;rw[bW];have E:=zu6 L n neg i (by omega);have F:∀ b,In tv b->¬ In w b:=fun b d e=>by
    have:=s.nw b d;have:=a.gl.lt e;omega
   refine qqf (A:=mJ L n neg i) (S:=In w) l (by omega) t (by omega) (fun H' f=>m.fm (c.old f)) (fun H' f=>o.fm (c.old f)) (fun H' f=>(s.rs qi6).gH f F) (qgo L i) (by omega) (fun y z r=>?_) bL 0 w J (gy _) (by have:=qgo L i;rw[bZ];omega) ?_
   ·unfold q42;simp(disch:=omega)only[go_sem];refine qtu l x t m o p k (i+1) y z (by omega) (by omega) (by omega) ?_;have:mJ L n neg (i+1)=mJ L n neg i++arK L n neg i:=by
     unfold mJ;rw[qkt hi,vk,vw]
    rw[this];exact c.fin r
   ·rw[lAP,List.flatMap_nil,ut];exact c.start
  ·have G:rg (n / 4*4) i=rg (n / 4*4) (min (bD L) (n / 4*4+4)):=by
    by_cases h:n / 4*4<=min (bD L) (n / 4*4+4)
    ·congr 1;omega
    ·unfold rg;rw[uy (by simp;omega),uy (by simp;omega)]
   unfold mJ at a;rw[G]at a;by_cases d:i<bD L
   ·have e:¬ i<n / 4*4+4:=fun h=>g ⟨d,h⟩;simp(disch:=omega)only[go_sem,d,e];exact p w u a
   ·simp only[go_sem,d];exact p w u a
def kU(L:List (List Nat))(n:Nat)(neg:Bool):List ArS:=mJ L n neg (min (bD L) (n / 4*4+4))
def aNp(neg:Bool):AV:=if neg then ruV 2 (fD 0) sE .aA else ruV 1 sE sE .aA
def aEB(L:List (List Nat))(n c:Nat)(neg:Bool):AV:=
 if(kU L n neg).length=0 then aNp neg else ruV 3 ((kU L n neg).getD (c%(kU L n neg).length) ⟨sE,sE⟩).rl ((kU L n neg).getD (c%(kU L n neg).length) ⟨sE,sE⟩).to .aA
theorem zu5(f:aV C)(t:6<=k){v:AV}{L:List (List Nat)}{n c:Nat}(u:gT H v L)(x:n<100000)(D:c<256):Ok (C k (.f 58) [.agg [v],iN n,.int .u8 (.ofNat c),.bool neg] H) fun r H'=>r=aEB L n c neg/\Fm No H H':=by
 obtain⟨j,rfl⟩:=aU t;rw[(f j).zBg];unfold zBg z0c;simp(disch:=omega)only[go_sem];unfold zhp;rw[bW];have h:Fm No H (aN (aN H (aB 0 [v])) (aB 0 [.int .u8 (.ofNat 0),.str 0 0,.str 0 0,.aA])):=by exact fP2
 have i:Fm No (aN H (aB 0 [v])) (aN (aN H (aB 0 [v])) (aB 0 [.int .u8 (.ofNat 0),.str 0 0,.str 0 0,.aA])):=by exact mG
 have l:yR (aN H (aB 0 [v])) H.nx v:=⟨by simp only[np,nq];omega,by simp(disch:=omega)only[go_sem]⟩;refine qtu f (by omega) x (u.fm h) (l.fm i) (fun w p g=>?_) bL (n / 4*4) .aA _ (lh _) (by omega) (by rw[bZ];omega) ?_
 ·unfold qvb;have m:=g.bS;have d:=g.fm;have y:=d.nx;simp only[np]at y;have k2:p.get (H.nx+1)=aB 0 [.int .u8 (.ofNat 0),.str 0 0,.str 0 0,.aA]:=(d.keep (by simp only[np,nq];omega)).trans (by simp(disch:=go_size)only[go_sem]);unfold aEB kU;by_cases e:(mJ L n neg (min (bD L) (n / 4*4+4))).length=0
  ·rw[kz e];simp only[go_sem,m,e];refine Ok.ve (qgc f (k:=j) (by omega) neg p) ?_;rintro _ A ⟨rfl,q⟩;have z:A.get (H.nx+1)=aB 0 [.int .u8 (.ofNat 0),.str 0 0,.str 0 0,.aA]:=(q.keep (by omega)).trans k2;cases neg<;>(unfold ruV;simp only[go_sem,seval,z];exact Ok.ret ⟨rfl,((h.trans d).trans q).aD _ _ (by omega)⟩)
  ·rw[lu e];simp only[go_sem,m,e];unfold zwp;have a:c%(mJ L n neg (min (bD L) (n / 4*4+4))).length<(mJ L n neg (min (bD L) (n / 4*4+4))).length:=xy _ (by omega);obtain⟨b,o,B,E,s⟩:=(g.rs z4f).atN a;unfold arC at s;simp(disch:=omega)only[go_sem,seval,m,B,s,k2];refine Ok.ret ⟨?_,(h.trans d).aD _ _ (by omega)⟩;rw[kw,lL a];rfl
 ·unfold mJ;rw[qw3];exact Ac.nil _ _ (Fm.refl _ _)
inductive Ru where
 |leaf (kind:Nat) (rl to:SS)
 |node (kind:Nat) (a b:Ru)
 deriving DecidableEq
def Ru.kind:Ru->Nat
 | .leaf k _ _=>k
 | .node k _ _=>k
def xY(k:Nat)(rl to:SS):List AV:=[.int .u8 (.ofNat k),rl.v,to.v,.aA]
def iG(P:Nat->Prop)(H:Hp):Ru->List AV->Prop
 | .leaf k rl to,cs=>cs=xY k rl to
 | .node k a b,cs=>∃ bl ca cb,cs=[.int .u8 (.ofNat k),sE.v,sE.v,.sl bl 0 2 2 true]/\bl<H.nx/\P bl/\H.get bl=aB 0 (ca++cb)/\iG P H a ca/\iG P H b cb
theorem iG.gH{P S:Nat->Prop}{H H':Hp}(f:Fm S H H')(a:∀ b,P b->¬ S b):∀{r:Ru} {cs:List AV},iG P H r cs->iG P H' r cs
 | .leaf _ _ _,_,h=>h
 | .node _ _ _,_,⟨bl,ca,cb,h1,h2,h6,h3,h4,h5⟩=>⟨bl,ca,cb,h1,lq h2 f.nx,h6,by rw[f.get bl h2 (a bl h6)];exact h3,iG.gH f a h4,iG.gH f a h5⟩
theorem iG.fm{P:Nat->Prop}(f:Fm No H H'){r:Ru}(h:iG P H r cs):iG P H' r cs:=h.gH f fun _ _ h=>h
theorem iG.mono{P Q:Nat->Prop}{H:Hp}(a:∀ b,b<H.nx->P b->Q b):∀{r:Ru} {cs:List AV},iG P H r cs->iG Q H r cs
 | .leaf _ _ _,_,h=>h
 | .node _ _ _,_,⟨bl,ca,cb,h1,h2,h6,h3,h4,h5⟩=>⟨bl,ca,cb,h1,h2,a bl h2 h6,h3,iG.mono a h4,iG.mono a h5⟩
theorem iG.four{P:Nat->Prop}:∀{r:Ru} {cs:List AV},iG P H r cs->∃ a b c d,cs=[a,b,c,d]
 | .leaf _ _ _,_,h=>⟨_,_,_,_,h⟩
 | .node _ _ _,_,⟨_,_,_,h1,_⟩=>⟨_,_,_,_,h1⟩
def qjk(neg:Bool):Ru:=if neg then .leaf 2 (fD 0) sE else .leaf 1 sE sE
def uL(L:List (List Nat))(n c:Nat)(neg:Bool):Ru:=
 if(kU L n neg).length=0 then qjk neg else .leaf 3 ((kU L n neg).getD (c%(kU L n neg).length) ⟨sE,sE⟩).rl ((kU L n neg).getD (c%(kU L n neg).length) ⟨sE,sE⟩).to
theorem qgd(neg:Bool):∃ k rl to,qjk neg=.leaf k rl to/\(if neg then ruV 2 (fD 0) sE .aA else ruV 1 sE sE .aA)=.agg [.int .u8 (.ofNat k),.str rl.n rl.a,.str to.n to.a,.aA]:=by
 cases neg
 ·exact⟨1,sE,sE,rfl,rfl⟩
 ·exact⟨2,fD 0,sE,rfl,rfl⟩
theorem z9n(L:List (List Nat))(n c:Nat)(neg:Bool):∃ k rl to,uL L n c neg=.leaf k rl to/\aEB L n c neg=.agg [.int .u8 (.ofNat k),.str rl.n rl.a,.str to.n to.a,.aA]:=by
 unfold uL aEB;by_cases h:(kU L n neg).length=0
 ·rw[kz h,kz h];exact qgd neg
 ·rw[lu h,lu h];exact⟨_,_,_,rfl,rfl⟩
def aAu(L:List (List Nat))(n c:Nat)(neg:Bool):Ru:=.leaf 2 ((cmpL (bD L) n neg).getD (c%(cmpL (bD L) n neg).length) sE) sE
def vB(n c:Nat):Nat:=if c%8=6 then 5 else if c%8=7/\0<lvl n then 6 else 4
def eO(L:List (List Nat))(n:Nat):Nat->Nat->Bool->Ru×Nat
 |0,i,neg=>(qjk neg,i)
 |d+1,i,neg=>
  if(L.getD n []).length<=i\/12<=i then(qjk neg,i)else
  if eD L n i%8<2 then(qjk neg,i+1)else
  if eD L n i%8<4 then(aAu L n (eD L n i / 8) neg,i+1)else
  if eD L n i%8=4 then(uL L n (eD L n i / 8) neg,i+1)else
  let a:=eO L n d (i+1) neg
  let b:=eO L n d a.2 (neg||decide (vB n (eD L n i)=6))
  (.node (vB n (eD L n i)) a.1 b.1,b.2)
theorem qmx(L:List (List Nat))(n:Nat):∀(d i:Nat) (neg:Bool),i<=max i 12/\(eO L n d i neg).2<=max i 12
 |0,i,neg=>by unfold eO;omega
 |d+1,i,neg=>by
  unfold eO;split
  ·omega
  split
  ·omega
  split
  ·omega
  split
  ·omega
  have a:=(qmx L n d (i+1) neg).2;have b:=(qmx L n d (eO L n d (i+1) neg).2 (neg||decide (vB n (eD L n i)=6))).2;simp only;omega
def zyf(C:Nat->Ev.Call)(L:List (List Nat))(n:Nat)(v:AV)(k d:Nat):Prop:=
 ∀(i dep:Nat) (neg:Bool) (H:Hp),dep+d=7->i<1000000->gT H v L->At (bD L) n neg ->
  Ok (C k (.f 27) [.agg [v],iN n,iN i,iN dep,.bool neg] H) fun r H'=>
   ∃cs,r=.aX [.agg cs,iN ((eO L n d i neg).2)]/\iG (fun b=>H.nx<=b) H' (eO L n d i neg).1 cs/\Fm No H H'
theorem qmw{j d:Nat}{L:List (List Nat)}{v:AV}(y:zyf C L n v j d){i a kd:Nat}(hd:a+d+1=7)(W:i<900000)(z:gT H v L)(I:At (bD L) n neg)(p:At (bD L) n (neg||decide (kd=6))){cb rb:Nat}(f:yR H cb v)(J:Fm No H0 H)(K:H0.nx<=rb)(q:rb<H.nx)(M:H.get rb=aB 0 [.int .u8 (.ofNat 0),.str 0 0,.str 0 0,.aA])(N:cb<rb\/rb<cb):Ok (qhz (C j) (iN n) (iN i) (iN a) (.bool neg) (.ptr cb 0) (.ptr rb 0) (.int .u8 (.ofNat kd)) H) fun r H'=>
   ∃cs,r=.aX [.agg cs,iN ((eO L n d (eO L n d i neg).2 (neg||decide (kd=6))).2)] /\
    iG (fun b=>H0.nx<=b) H' (.node kd (eO L n d i neg).1 (eO L n d (eO L n d i neg).2 (neg||decide (kd=6))).1) cs/\Fm No H0 H':=by
 unfold qhz;have P:=f.is;simp(disch:=omega)only[go_sem,P];simp(disch:=first|go_size|omega)only[go_sem,rB,rI,rK,rL,rN,rS,r6];refine Ok.ve (y i (a+1) neg H (by omega) (by omega) z I) ?_;rintro _ H1 ⟨ca,rfl,g,k⟩;obtain⟨t,u,w,x,rfl⟩:=g.four;have Q:=(qmx L n d i neg).2;have o:Fm No H1 ((aN H1 (aB 0 [.int .u8 (.ofNat 0),.str 0 0,.str 0 0,.aA])).put H1.nx (aB 0 [t,u,w,x])):=by exact nA
 have B:=f.fm k;have R:=B.is;have Y:=B.lt;have Z:=k.nx;cases neg<;>(
  simp(disch:=go_size)only[go_sem,rB,rI,rK,rL,rN,rS,r6,R];refine Ok.ve (y _ (a+1) _ _ (by omega) (by omega) ((z.fm k).fm o) p) ?_;rintro _ e ⟨V,rfl,l,m⟩;obtain⟨D,E,F,G,rfl⟩:=l.four;have S:=m.nx;simp only[np,nq]at S;have k2:e.get H1.nx=aB 0 [t,u,w,x]:=(m.keep (by simp only[np,nq];omega)).trans (by simp only[go_sem]);have T:e.get rb=aB 0 [.int .u8 (.ofNat 0),.str 0 0,.str 0 0,.aA]:=((k.trans (o.trans m)).keep q).trans M;simp(disch:=first|go_size|omega)only[go_sem,seval,k2,T];have s:Fm (fun b=>b=rb) e (((aN ((aN e (aB 0 [.int .u8 (.ofNat 0),.str 0 0,.str 0 0,.aA])).put e.nx (aB 0 [D,E,F,G])) (aB 0 [t,u,w,x,D,E,F,G]))).put rb (aB 0 [.int .u8 (.ofNat kd),.str 0 0,.str 0 0,.sl (e.nx+1) 0 2 2 true])):=by(repeat(first|exact Fm.refl _ _|assumption|refine Fm.push ?_ _|refine Fm.fC ?_ (by go_size)|refine Fm.aD ?_ _ _ (by go_size)|refine Fm.put ?_ _ _ (fun _=>rfl)))
  have U:=(((J.trans k).trans o).trans m).then s fun c X h=>by omega
  refine Ok.ret ⟨_,rfl,⟨e.nx+1,_,_,rfl,by simp only[np,nq];omega,by omega,?_,(((g.fm o).fm m).gH s fun b A O=>by omega).mono fun b _ h=>by omega,(l.gH s fun b A O=>by simp only[np,nq]at A;omega).mono fun b _ h=>by simp only[np,nq]at h;omega⟩,U⟩;simp(disch:=go_size)only[go_sem])
theorem z1k(z:aV C){L:List (List Nat)}{v:AV}:∀(d k:Nat),10+d<=k->zyf C L n v k d:=by
 intro d
 induction d with
 |zero=>
  intro k Z i O neg H hd hi R r;obtain⟨j,rfl⟩:∃ j,k=j+1:=⟨k-1,by omega⟩;rw[(z j).zAp];unfold zAp zrz;have F:n<L.length:=lq r.lt (eQ _ _);have p:Fm No H (aN (aN H (aB 0 [v])) (aB 0 [.int .u8 (.ofNat 0),.str 0 0,.str 0 0,.aA])):=by exact fP2
  obtain⟨b,o,w,s,e2,t,S⟩:=(R.fm p).at F;have c:=S.len;rw[show(yX L[n]).length=L[n].length by simp[yX]]at c;have T:6<O:=by omega
  have g:eO L n 0 i neg=(qjk neg,i):=rfl;rw[g];by_cases N:L[n].length<=i
  ·simp(disch:=first|go_size|omega)only[go_sem,rB,rI,rK,rL,rN,rS,r6,s,t,c,N];refine Ok.ve (qgc z (k:=j) (by omega) neg _) ?_;rintro _ f ⟨rfl,a⟩;obtain⟨I,J,K,c,m⟩:=qgd neg;rw[m];have l:f.get (H.nx+1)=aB 0 [.int .u8 (.ofNat 0),.str 0 0,.str 0 0,.aA]:=(a.keep (by go_size)).trans (by simp(disch:=go_size)only[go_sem,seval]);have A:=a.nx;simp only[go_sem,seval,l];exact Ok.ret ⟨_,rfl,by rw[c];rfl,(p.trans a).aD _ _ (by omega)⟩
  ·by_cases P:12<=i
   ·simp(disch:=first|go_size|omega)only[go_sem,rB,rI,rK,rL,rN,rS,r6,s,t,c,N,P];refine Ok.ve (qgc z (k:=j) (by omega) neg _) ?_;rintro _ f ⟨rfl,a⟩;obtain⟨I,J,K,c,m⟩:=qgd neg;rw[m];have l:f.get (H.nx+1)=aB 0 [.int .u8 (.ofNat 0),.str 0 0,.str 0 0,.aA]:=(a.keep (by go_size)).trans (by simp(disch:=go_size)only[go_sem,seval]);have A:=a.nx;simp only[go_sem,seval,l];exact Ok.ret ⟨_,rfl,by rw[c];rfl,(p.trans a).aD _ _ (by omega)⟩
   ·simp(disch:=first|go_size|omega)only[go_sem,rB,rI,rK,rL,rN,rS,r6,s,t,c,N,P,T];refine Ok.ve (qgc z (k:=j) (by omega) neg _) ?_;rintro _ f ⟨rfl,a⟩;obtain⟨I,J,K,c,m⟩:=qgd neg;rw[m];have l:f.get (H.nx+1)=aB 0 [.int .u8 (.ofNat 0),.str 0 0,.str 0 0,.aA]:=(a.keep (by go_size)).trans (by simp(disch:=go_size)only[go_sem,seval]);have A:=a.nx;simp only[go_sem,seval,l];exact Ok.ret ⟨_,rfl,by rw[c];rfl,(p.trans a).aD _ _ (by omega)⟩
 |succ d ih=>
  intro k Z i O neg H hd hi R r;obtain⟨j,rfl⟩:∃ j,k=j+1:=⟨k-1,by omega⟩;rw[(z j).zAp];unfold zAp zrz;have F:n<L.length:=lq r.lt (eQ _ _);have X:n<12:=lq r.lt r.le;have p:Fm No H (aN (aN H (aB 0 [v])) (aB 0 [.int .u8 (.ofNat 0),.str 0 0,.str 0 0,.aA])):=by exact fP2
  have q:=R.fm p;have u:yR (aN (aN H (aB 0 [v])) (aB 0 [.int .u8 (.ofNat 0),.str 0 0,.str 0 0,.aA])) H.nx v:=⟨by(first|go_size|omega),by simp(disch:=first|go_size|omega)only[go_sem,seval]⟩;have G:(aN (aN H (aB 0 [v])) (aB 0 [.int .u8 (.ofNat 0),.str 0 0,.str 0 0,.aA])).get (H.nx+1)=aB 0 [.int .u8 (.ofNat 0),.str 0 0,.str 0 0,.aA]:=by simp(disch:=go_size)only[go_sem,seval]
  obtain⟨b,o,w,s,e2,t,S⟩:=q.at F;have c:=S.len;rw[show(yX L[n]).length=L[n].length by simp[yX]]at c;have e:L.getD n []=L[n]:=by rw[kw,lL F];rfl
  have T:¬ 6<O:=by omega
  by_cases E:L[n].length<=i\/12<=i
  ·have g:eO L n (d+1) i neg=(qjk neg,i):=by unfold eO;rw[e,kz E]
   rw[g];by_cases N:L[n].length<=i
   ·simp(disch:=first|go_size|omega)only[go_sem,rB,rI,rK,rL,rN,rS,r6,s,t,c,N];refine Ok.ve (qgc z (k:=j) (by omega) neg _) ?_;rintro _ f ⟨rfl,a⟩;obtain⟨I,J,K,c,m⟩:=qgd neg;rw[m];have l:f.get (H.nx+1)=aB 0 [.int .u8 (.ofNat 0),.str 0 0,.str 0 0,.aA]:=(a.keep (by go_size)).trans (by simp(disch:=go_size)only[go_sem,seval]);have A:=a.nx;simp only[go_sem,seval,l];exact Ok.ret ⟨_,rfl,by rw[c];rfl,(p.trans a).aD _ _ (by omega)⟩
   ·have P:12<=i:=by omega
    simp(disch:=first|go_size|omega)only[go_sem,rB,rI,rK,rL,rN,rS,r6,s,t,c,N,P];refine Ok.ve (qgc z (k:=j) (by omega) neg _) ?_;rintro _ f ⟨rfl,a⟩;obtain⟨I,J,K,c,m⟩:=qgd neg;rw[m];have l:f.get (H.nx+1)=aB 0 [.int .u8 (.ofNat 0),.str 0 0,.str 0 0,.aA]:=(a.keep (by go_size)).trans (by simp(disch:=go_size)only[go_sem,seval]);have A:=a.nx;simp only[go_sem,seval,l];exact Ok.ret ⟨_,rfl,by rw[c];rfl,(p.trans a).aD _ _ (by omega)⟩
  ·have N:¬ L[n].length<=i:=by omega
   have P:¬ 12<=i:=by omega
   have U:i<L[n].length:=by omega
   obtain⟨b1,o1,M,g2,D⟩:=S.at' i (by simp[yX];omega);have V:(yX L[n])[i]'(by simp[yX];omega)=.int .u8 (.ofNat (eD L n i)):=by unfold eD;rw[e,kw,lL U];simp[yX]
   rw[V]at D;have hc:=zbi R n i;simp(disch:=first|go_size|omega)only[go_sem,rB,rI,rK,rL,rN,rS,r6,s,t,c,N,P,T];unfold zim;have Y:eD L n i%8=0\/eD L n i%8=1\/eD L n i%8=2\/eD L n i%8=3\/eD L n i%8=4\/eD L n i%8=5\/eD L n i%8=6\/eD L n i%8=7:=by omega
   rcases Y with h|h|h|h|h|h|h|h
   ·have g:eO L n (d+1) i neg=(qjk neg,i+1):=by unfold eO;rw[e,lu E,kz (by omega)]
    rw[g];simp(disch:=first|omega|exact ti rfl|simp only[np,nq];first|done|omega)only[go_sem,rB,rI,rK,rL,rN,rS,r6,s,t,M,D,h];unfold qd6;refine Ok.ve (qgc z (k:=j) (by omega) neg _) ?_;rintro _ f ⟨rfl,a⟩;obtain⟨I,J,K,c,m⟩:=qgd neg;rw[m];have l:f.get (H.nx+1)=aB 0 [.int .u8 (.ofNat 0),.str 0 0,.str 0 0,.aA]:=(a.keep (by go_size)).trans (by simp(disch:=go_size)only[go_sem,seval]);have A:=a.nx;simp(disch:=go_size)only[go_sem,rB,rI,rK,rL,rN,rS,r6,l];exact Ok.ret ⟨_,rfl,by rw[c];rfl,(p.trans a).aD _ _ (by omega)⟩
   ·have g:eO L n (d+1) i neg=(qjk neg,i+1):=by unfold eO;rw[e,lu E,kz (by omega)]
    rw[g];simp(disch:=first|omega|exact ti rfl|simp only[np,nq];first|done|omega)only[go_sem,rB,rI,rK,rL,rN,rS,r6,s,t,M,D,h];unfold qd6;refine Ok.ve (qgc z (k:=j) (by omega) neg _) ?_;rintro _ f ⟨rfl,a⟩;obtain⟨I,J,K,c,m⟩:=qgd neg;rw[m];have l:f.get (H.nx+1)=aB 0 [.int .u8 (.ofNat 0),.str 0 0,.str 0 0,.aA]:=(a.keep (by go_size)).trans (by simp(disch:=go_size)only[go_sem,seval]);have A:=a.nx;simp only[go_sem,seval,l];exact Ok.ret ⟨_,rfl,by rw[c];rfl,(p.trans a).aD _ _ (by omega)⟩
   ·have g:eO L n (d+1) i neg=(aAu L n (eD L n i / 8) neg,i+1):=by unfold eO;rw[e,lu E,lu (by omega),kz (by omega)]
    rw[g];simp(disch:=first|omega|exact ti rfl|simp only[np,nq];first|done|omega)only[go_sem,rB,rI,rK,rL,rN,rS,r6,s,t,M,D,h];unfold qd6;unfold qfc;have Q:=u.is;simp(disch:=go_size)only[go_sem,rB,rI,rK,rL,rN,rS,r6,Q];refine Ok.ve (qp9 z (k:=j) (by omega) q r (by omega)) ?_;rintro _ f ⟨rfl,a⟩;obtain⟨I,J,K,c,m⟩:=(⟨2,(cmpL (bD L) n neg).getD (eD L n i / 8%(cmpL (bD L) n neg).length) sE,sE,rfl,rfl⟩:∃ k rl to,aAu L n (eD L n i / 8) neg=.leaf k rl to/\ruV 2 ((cmpL (bD L) n neg).getD (eD L n i / 8%(cmpL (bD L) n neg).length) sE) sE .aA=.agg [.int .u8 (.ofNat k),.str rl.n rl.a,.str to.n to.a,.aA]);rw[m];have l:f.get (H.nx+1)=aB 0 [.int .u8 (.ofNat 0),.str 0 0,.str 0 0,.aA]:=(a.keep (by go_size)).trans (by simp(disch:=go_size)only[go_sem,seval]);have A:=a.nx;simp only[go_sem,seval,l];exact Ok.ret ⟨_,rfl,by rw[c];rfl,(p.trans a).aD _ _ (by omega)⟩
   ·have g:eO L n (d+1) i neg=(aAu L n (eD L n i / 8) neg,i+1):=by unfold eO;rw[e,lu E,lu (by omega),kz (by omega)]
    rw[g];simp(disch:=first|omega|exact ti rfl|simp only[np,nq];first|done|omega)only[go_sem,rB,rI,rK,rL,rN,rS,r6,s,t,M,D,h];unfold qd6;unfold qfc;have Q:=u.is;simp(disch:=go_size)only[go_sem,rB,rI,rK,rL,rN,rS,r6,Q];refine Ok.ve (qp9 z (k:=j) (by omega) q r (by omega)) ?_;rintro _ f ⟨rfl,a⟩;obtain⟨I,J,K,c,m⟩:=(⟨2,(cmpL (bD L) n neg).getD (eD L n i / 8%(cmpL (bD L) n neg).length) sE,sE,rfl,rfl⟩:∃ k rl to,aAu L n (eD L n i / 8) neg=.leaf k rl to/\ruV 2 ((cmpL (bD L) n neg).getD (eD L n i / 8%(cmpL (bD L) n neg).length) sE) sE .aA=.agg [.int .u8 (.ofNat k),.str rl.n rl.a,.str to.n to.a,.aA]);rw[m];have l:f.get (H.nx+1)=aB 0 [.int .u8 (.ofNat 0),.str 0 0,.str 0 0,.aA]:=(a.keep (by go_size)).trans (by simp(disch:=go_size)only[go_sem,seval]);have A:=a.nx;simp only[go_sem,seval,l];exact Ok.ret ⟨_,rfl,by rw[c];rfl,(p.trans a).aD _ _ (by omega)⟩
   ·have g:eO L n (d+1) i neg=(uL L n (eD L n i / 8) neg,i+1):=by unfold eO;rw[e,lu E,lu (by omega),lu (by omega),kz h]
    rw[g];simp(disch:=first|omega|exact ti rfl|simp only[np,nq];first|done|omega)only[go_sem,rB,rI,rK,rL,rN,rS,r6,s,t,M,D,h];unfold qd6;unfold qfc;have Q:=u.is;simp(disch:=go_size)only[go_sem,rB,rI,rK,rL,rN,rS,r6,Q];refine Ok.ve (zu5 z (k:=j) (by omega) q (by omega) (by omega)) ?_;rintro _ f ⟨rfl,a⟩;obtain⟨I,J,K,c,m⟩:=z9n L n (eD L n i / 8) neg;rw[m];have l:f.get (H.nx+1)=aB 0 [.int .u8 (.ofNat 0),.str 0 0,.str 0 0,.aA]:=(a.keep (by go_size)).trans (by simp(disch:=go_size)only[go_sem,seval]);have A:=a.nx;simp only[go_sem,seval,l];exact Ok.ret ⟨_,rfl,by rw[c];rfl,(p.trans a).aD _ _ (by omega)⟩
   ·have x:vB n (eD L n i)=4:=by unfold vB;rw[lu (by omega),lu (by omega)]
    have y:At (bD L) n (neg||decide (4=6)):=by simpa using r
    have g:eO L n (d+1) i neg=(.node 4 (eO L n d (i+1) neg).1 (eO L n d (eO L n d (i+1) neg).2 (neg||decide (4=6))).1,(eO L n d (eO L n d (i+1) neg).2 (neg||decide (4=6))).2):=by rw[eO,e,lu E,lu (by omega),lu (by omega),lu (by omega),x]
    rw[g];simp(disch:=first|omega|exact ti rfl|simp only[np,nq];first|done|omega)only[go_sem,rB,rI,rK,rL,rN,rS,r6,s,t,M,D,h];unfold qd6;unfold qfc;exact qmw (ih j (by omega)) (by omega) (by omega) q r y u p (by omega) (by first|omega|simp only[np,nq];omega) G (by omega)
   ·have x:vB n (eD L n i)=5:=by unfold vB;rw[kz h]
    have y:At (bD L) n (neg||decide (5=6)):=by simpa using r
    have g:eO L n (d+1) i neg=(.node 5 (eO L n d (i+1) neg).1 (eO L n d (eO L n d (i+1) neg).2 (neg||decide (5=6))).1,(eO L n d (eO L n d (i+1) neg).2 (neg||decide (5=6))).2):=by rw[eO,e,lu E,lu (by omega),lu (by omega),lu (by omega),x]
    rw[g];simp(disch:=first|omega|exact ti rfl|simp only[np,nq];first|done|omega)only[go_sem,rB,rI,rK,rL,rN,rS,r6,s,t,M,D,h];unfold qd6;unfold qfc;exact qmw (ih j (by omega)) (by omega) (by omega) q r y u p (by omega) (by first|omega|simp only[np,nq];omega) G (by omega)
   ·by_cases B:0<lvl n
    ·have x:vB n (eD L n i)=6:=by unfold vB;rw[lu (by omega),kz ⟨h,B⟩]
     have y:At (bD L) n (neg||decide (6=6)):=⟨r.lt,r.le,fun _=>B⟩;have g:eO L n (d+1) i neg=(.node 6 (eO L n d (i+1) neg).1 (eO L n d (eO L n d (i+1) neg).2 (neg||decide (6=6))).1,(eO L n d (eO L n d (i+1) neg).2 (neg||decide (6=6))).2):=by rw[eO,e,lu E,lu (by omega),lu (by omega),lu (by omega),x]
     rw[g];simp(disch:=first|omega|exact ti rfl|simp only[np,nq];first|done|omega)only[go_sem,rB,rI,rK,rL,rN,rS,r6,s,t,M,D,h];unfold qd6;unfold qfc;refine Ok.ve (qel z (k:=j) (by omega) n (by omega) _) ?_;rintro _ f ⟨rfl,a⟩;have W:f.get (H.nx+1)=aB 0 [.int .u8 (.ofNat 0),.str 0 0,.str 0 0,.aA]:=(a.keep (by simp only[np,nq];omega)).trans G;have A:=a.nx;simp only[np]at A;simp only[go_sem,B];exact qmw (ih j (by omega)) (by omega) (by omega) (q.fm a) r y (u.fm a) (p.trans a) (by omega) (by omega) W (by omega)
    ·have x:vB n (eD L n i)=4:=by unfold vB;rw[lu (by omega),lu (fun h=>B h.2)]
     have y:At (bD L) n (neg||decide (4=6)):=by simpa using r
     have g:eO L n (d+1) i neg=(.node 4 (eO L n d (i+1) neg).1 (eO L n d (eO L n d (i+1) neg).2 (neg||decide (4=6))).1,(eO L n d (eO L n d (i+1) neg).2 (neg||decide (4=6))).2):=by rw[eO,e,lu E,lu (by omega),lu (by omega),lu (by omega),x]
     rw[g];simp(disch:=first|omega|exact ti rfl|simp only[np,nq];first|done|omega)only[go_sem,rB,rI,rK,rL,rN,rS,r6,s,t,M,D,h];unfold qd6;unfold qfc;refine Ok.ve (qel z (k:=j) (by omega) n (by omega) _) ?_;rintro _ f ⟨rfl,a⟩;have W:f.get (H.nx+1)=aB 0 [.int .u8 (.ofNat 0),.str 0 0,.str 0 0,.aA]:=(a.keep (by simp only[np,nq];omega)).trans G;have A:=a.nx;simp only[np]at A;simp only[go_sem,B];exact qmw (ih j (by omega)) (by omega) (by omega) (q.fm a) r y (u.fm a) (p.trans a) (by omega) (by omega) W (by omega)
theorem iG.flat{P:Nat->Prop}:∀{r:Ru} {cs:List AV},iG P H r cs->cs.all vL=true
 | .leaf _ _ _,_,h=>by rw[show _=_ from h];rfl
 | .node _ _ _,_,⟨_,_,_,h1,_⟩=>by rw[h1];rfl
structure Nd where
 k:Nat
 rl:SS
 to:SS
 neg:Bool
 deriving DecidableEq
def jL(x:Nd×AV):List AV:=[.int .u8 (.ofNat x.1.k),x.1.rl.v,x.1.to.v,x.2,.bool x.1.neg]
theorem vK(x:Nd×AV):(jL x).length=5:=rfl
def Ru.nodes:Ru->Bool->List Nd
 | .leaf k rl to,neg=>[⟨k,rl,to,neg⟩]
 | .node k a b,neg=>⟨k,sE,sE,neg⟩::(a.nodes neg++b.nodes (neg||decide (k=6)))
def Ru.size:Ru->Nat
 | .leaf _ _ _=>1
 | .node _ a b=>a.size+b.size+1
def Ru.depth:Ru->Nat
 | .leaf _ _ _=>1
 | .node _ a b=>max a.depth b.depth+1
theorem qby:∀(r:Ru) (neg:Bool),(r.nodes neg).length=r.size
 | .leaf _ _ _,_=>rfl
 | .node _ a b,neg=>by unfold Ru.nodes Ru.size;rw[gz,ku,qby a,qby b]
theorem zkq(L:List AV)(o i:Nat)(x:AV)(h:o+i<L.length):(aY L (o+i) [x]).drop o=aY (L.drop o) i [x]:=by unfold aY;simp only[gz,uk,pq,rf];rw[xm (by simp;omega),List.drop_take,zk,lAB];congr 3
theorem Gl.set1{v:AV}(h:Gl z H v n l)(c:i<n)(s:j<z)(x:AV):∃b o H',aG z v (iN i)=.val (.ptr b o)/\storeAt H b (o+j) [x] .undef=.ok .undef H'/\Gl z H' v n (aY l (i*z+j) [x])/\Fm (In v) H H'/\H'.nx=H.nx:=by
 have a:=h.len;rcases h.is with⟨rfl,rfl⟩|⟨b,o,e,q,L,rfl,k,m,f,p,r⟩
 ·omega
 ·have t:i*z+z<=n*z:=by
   have:(i+1)*z<=n*z:=um z c;rw[xk,zu]at this;exact this
  have u:o+n*z=L.length:=by rw[<-f,xx]at a;omega
  have d:o+i*z+j+[x].length<=L.length:=by simp;omega
  have g:i*z+j+[x].length<=l.length:=by rw[a];simp;omega
  refine⟨b,o+i*z,_,uT _ _ _ _ _ _ _ _ c,qch H b _ [x] _ q L k d,⟨?_,.inr ⟨b,o,e,q,_,rfl,dL _ _ _,?_,?_,p,r⟩⟩,(Fm.refl _ _).put b _ fun _=>⟨_,_,_,_,rfl⟩,rfl⟩
  ·rw[qdc _ _ _ g,a]
  ·rw[qdc _ _ _ d];exact m
  ·rw[ui,zkq _ _ _ _ (by omega),f]
theorem zlx(a:AV):∀(l:List (Nd×AV)) (i:Nat) (h:i<l.length),aY (l.flatMap jL) (i*5+3) [a]=(l.set i (l[i].1,a)).flatMap jL
 | [],_,h=>by simp at h
 |x::l,0,_=>by simp[aY,jL]
 |x::l,i+1,h=>by
  have:=zlx a l i (by simpa using h);rw[lAX,xF,xF,List.getElem_cons_succ,<-this];unfold aY;have e:(i+1)*5+3=(jL x).length+(i*5+3):=by rw[vK];omega
  rw[e,iw,rf,rf];congr 1;rw[rf];congr 2;rw[ui,iy]
theorem nQ.comp{α:Type}{f:α->List AV}{v e:AV}{l g:List α}(h:nQ z f S H0 H v l)(d:nQ z f (In v) H H' e g):nQ z f S H0 H' e g:=
 ⟨d.gl,h.fm.then d.fm fun c k i=>by
  rcases h.nw c i with a|a
  ·exact a
  ·omega,fun b j=>by
  rcases d.nw b j with a|a
  ·exact h.nw b a
  ·exact .inr (rq h.fm.nx a)⟩
def zoy(C:Nat->Ev.Call)(r:Ru)(k:Nat):Prop:=
 ∀(v:AV) (neg:Bool) (H:Hp) {l:List (Nd×AV)} {cs:List AV} {P:Nat->Prop},Gl 5 H v l.length (l.flatMap jL)->iG P H r cs->(∀b,P b->¬ In v b)->l.length+r.size<=1000000 ->
  Ok (C k (.f 35) [v,.agg cs,.bool neg] H) fun w H'=>∃ l',nQ 5 jL (In v) H H' w l'/\l'.map Prod.fst=l.map Prod.fst++r.nodes neg
theorem q6g{l:List (Nd×AV)}(h:i<l.length)(x:AV):(l.set i (l[i].1,x)).map Prod.fst=l.map Prod.fst:=by
 refine List.ext_getElem (by simp) fun j a b=>?_;simp only[zf,lEC];split
 ·subst_vars;rfl
 ·rfl
theorem q0i{w:AV}{l:List (Nd×AV)}(h:nQ 5 jL S H0 H w l)(a:i<l.length){x:AV}(p:x=.aA\/∃ b o n m e,x=.sl b o n m e):Ok (qvi O w (iN i) x H) fun r H'=>∃ d,nQ 5 jL S H0 H' r d/\d.map Prod.fst=l.map Prod.fst:=by
 obtain⟨b,o,H',s,t,g,f,nx⟩:=h.gl.set1 a (j:=3) (by omega) x;unfold qvi;rw[zlx x l i a]at g;refine Ok.mono (Q:=fun r q=>r=w/\q=H') ?_ ?_
 ·rcases p with rfl|⟨_,_,_,_,_,rfl⟩<;>(simp only[go_sem,s,t];exact Ok.ret ⟨rfl,rfl⟩)
 ·rintro _ _ ⟨rfl,rfl⟩;exact⟨_,⟨by rw[ul];exact g,h.fm.then f fun c u a=>by
   rcases h.nw c a with k|k
   ·exact k
   ·omega,h.nw⟩,q6g a x⟩
theorem qs7{r:Ru}(hR:zoy C r j){g:AV->AV->pB}{Q:pH}{w x:AV}{l:List (Nd×AV)}{xs ca cb cc:List AV}{f bl kd t:Nat}{P:Nat->Prop}(G:Gl 5 H w l.length (l.flatMap jL))(hx:Gl 1 H x t xs)(ht:t<2)(J:l.length+r.size<=1000000)(ha:f<H.nx)(c:bl<H.nx)(ka:H.get f=aB 0 [.int .u8 (.ofNat kd),sE.v,sE.v,.sl bl 0 2 2 true])(kb:H.get bl=aB 0 (ca++cb))(K:jG (aB 0 (ca++cb)) (t*4) 4=some cc)(u:iG P H r cc)(d1:∀ b,In x b->¬ In w b)(p:¬ In w f/\¬ In x f)(q:¬ In w bl/\¬ In x bl)(L:∀ b,P b->¬ In w b)(M:∀ b,P b->¬ In x b)(hg:∀(w' N:AV) (H':Hp) (z:List (Nd×AV)) (R:List AV),Gl 5 H' w' z.length (z.flatMap jL)->(∀b,In w' b->In w b\/H.nx<=b)->z.map Prod.fst=l.map Prod.fst++r.nodes (neg||(decide (kd=6)&&decide (t=1))) -> Fm (fun b=>In w b\/In x b) H H'->Gl 1 H' N (t+1) R->(∀b,In N b->H.nx<=b/\¬ In w' b)->Ok (g w' N (iN ((t+1))) H') Q):Ok (q47 (C j) g w (.bool neg) (.ptr f 0) x (iN t) H) Q:=by
 unfold q47;have S:=G.bS;simp(disch:=go_size)only[go_sem,rB,rI,rK,rL,rN,rS,r6,S];have fp:Fm No H (aN H (aB 0 [iN (l.length)])):=by exact mG
 obtain⟨o,e2,g2,q2,f2,n2⟩:=(hx.no fp).append (k:=1) (w:=8) (x:=[iN (l.length)]) (by omega) rfl (by omega) (by omega);simp only[np]at n2;refine Ok.veE e2 ?_;have I:Fm (In x) H o:=(fp.mono (T:=In x) (fun _ _ h=>absurd h id)).then f2 fun _ _ h=>h;have V:∀ b,b<H.nx->¬ In x b->o.get b=H.get b:=fun b c v=>I.get b c v;have i:o.get f=aB 0 [.int .u8 (.ofNat kd),sE.v,sE.v,.sl bl 0 2 2 true]:=(V f ha p.2).trans ka;have W:o.get bl=aB 0 (ca++cb):=(V bl c q.2).trans kb;have A:jG (o.get bl) (t*4) 4=some cc:=by rw[W];exact K
 have X:=u.four;obtain⟨c0,B,D,E,hcc⟩:=X;subst hcc;have Y:Gl 5 o w l.length (l.flatMap jL):=G.keep I.nx (fun b c S=>V b S (fun v=>d1 b v c));have fin:∀(b:Bool),b=(neg||(decide (kd=6)&&decide (t=1)))->∀(m:AV) (d:Hp) (n:List (Nd×AV)),nQ 5 jL (In w) o d m n->n.map Prod.fst=l.map Prod.fst++r.nodes b ->
   Ok (g m (.sl (aN H (aB 0 [iN (l.length)])).nx 0 (t+1) (t+1) false) (iN ((t+1))) d) Q:=by
  rintro _ rfl m d n a e;refine hg m _ d n _ a.gl (fun b c=>?_) e ?_ (g2.keep a.fm.nx fun b c U=>a.fm.get b U fun h=>?_) (fun b c=>⟨?_,fun h=>?_⟩)
  ·rcases a.nw b c with h|h
   ·exact .inl h
   ·omega
  ·exact(I.mono fun _ _ h=>.inr h).then a.fm fun _ _ h=>.inl h
  ·obtain⟨_,_,_,_,c⟩:=c;cases c;have:=G.lt h;simp only[np]at this;omega
  ·obtain⟨_,_,_,_,c⟩:=c;cases c;simp only[np];omega
  ·obtain⟨_,_,_,_,c⟩:=c;cases c;simp only[np]at h;rcases a.nw _ h with h|h
   ·have:=G.lt h;omega
   ·omega
 have O:∀ b:Bool,Ok (C j (.f 35) [w,.agg [c0,B,D,E],.bool b] o) fun w' H'=>∃ z,nQ 5 jL (In w) o H' w' z/\z.map Prod.fst=l.map Prod.fst++r.nodes b:=fun b=>hR w b o Y (u.gH I M) L J;have y:oQ 64 (.agg [c0,B,D,E]) (.agg [c0,B,D,E])=true:=by have Z:=u.flat;refine qk6 _ ?_;rw[Z];rfl
 cases neg
 ·by_cases h6:kd=6
  ·subst h6;simp(disch:=omega)only[go_sem,i,A];refine Ok.kF (O (decide (t=1))) ?_;rintro m d ⟨n,a,e⟩;have s:=a.fm;have F:d.get f=aB 0 [.int .u8 (.ofNat 6),.str 0 0,.str 0 0,.sl bl 0 2 2 true]:=(s.get f (by omega) p.1).trans i;have r3:jG (d.get bl) (t*4) 4=some [c0,B,D,E]:=by rw[s.get bl (by omega) q.1];exact A
   have ec:=y;unfold qvh;simp(disch:=omega)only[go_sem];exact fin (decide (t=1)) (by simp) m d n a e
  ·simp(disch:=omega)only[go_sem,i,A,h6];refine Ok.kF (O false) ?_;rintro m d ⟨n,a,e⟩;have s:=a.fm;have F:d.get f=aB 0 [.int .u8 (.ofNat kd),.str 0 0,.str 0 0,.sl bl 0 2 2 true]:=(s.get f (by omega) p.1).trans i;have r3:jG (d.get bl) (t*4) 4=some [c0,B,D,E]:=by rw[s.get bl (by omega) q.1];exact A
   have ec:=y;unfold qvh;simp(disch:=omega)only[go_sem];exact fin false (by simp[h6]) m d n a e
 ·simp(disch:=omega)only[go_sem,i,A];refine Ok.kF (O true) ?_;rintro m d ⟨n,a,e⟩;have s:=a.fm;have F:d.get f=aB 0 [.int .u8 (.ofNat kd),.str 0 0,.str 0 0,.sl bl 0 2 2 true]:=(s.get f (by omega) p.1).trans i;have r3:jG (d.get bl) (t*4) 4=some [c0,B,D,E]:=by rw[s.get bl (by omega) q.1];exact A
  have ec:=y;unfold qvh;simp(disch:=omega)only[go_sem];exact fin true (by simp) m d n a e
theorem nQ.base{α:Type}{f:α->List AV}{v:AV}{l:List α}(a:Fm No H0 H1)(h:nQ z f S H1 H v l):nQ z f S H0 H v l:=
 ⟨h.gl,(a.mono fun _ _ h=>absurd h id).then h.fm fun _ _ h=>h,fun b c=>(h.nw b c).imp id fun h=>rq a.nx h⟩
theorem Gl.aCL{α:Type}{f:α->List AV}{v:AV}{l:List α}(h:Gl z H v l.length (l.flatMap f))(a:Fm No H H1):nQ z f (In v) H1 H1 v l:=⟨h.no a,Fm.refl _ _,fun _ h=>.inl h⟩
theorem n15(O:Ev.Call)(q:AV->pB)(x2 a:AV)(n:Nat):qvg O q x2 a (n+1)=qkc O q x2 a (qvg O q x2 a n):=rfl
theorem size_pos:∀ r:Ru,0<r.size
 | .leaf _ _ _=>Nat.one_pos
 | .node _ _ _=>Nat.succ_pos _
theorem qxe(hC:aV C):∀(r:Ru) (k:Nat),r.depth<=k->zoy C r k:=by
 intro r
 induction r with
 |leaf kd rl to=>
  intro k W v neg H l cs P n X o G;unfold Ru.depth at W;obtain⟨j,rfl⟩:∃ j,k=j+1:=⟨k-1,by omega⟩;rw[(hC j).zAz];unfold zAz zrp;obtain rfl:cs=xY kd rl to:=X;have R:=n.bS;unfold xY SS.v;simp(disch:=go_size)only[go_sem,seval,R];have B:Fm No H (aN (aN H (aB 0 [.int .u8 (.ofNat kd),.str rl.n rl.a,.str to.n to.a,.aA])) (aB 0 (jL (⟨kd,rl,to,neg⟩,.aA)))):=by exact fP2
  refine Ok.ve ((n.aCL B).add (⟨kd,rl,to,neg⟩,.aA) 72 rfl (by omega) (by omega)) ?_;intro w H1 s;have D:H1.get H.nx=aB 0 [.int .u8 (.ofNat kd),.str rl.n rl.a,.str to.n to.a,.aA]:=(s.fm.get _ (by(first|go_size|omega)) fun h=>by have:=n.lt h;omega).trans (by simp(disch:=first|go_size|omega)only[go_sem,seval]);unfold q48;obtain⟨m,Y⟩:∃ m,bL=m+1:=⟨999999,by rw[bZ]⟩;rw[bW,Y];rw[n15];unfold qkc;simp only[go_sem,D];refine(q0i (O:=C j) s (by simp) (.inl rfl)).mono ?_;rintro r Z ⟨l',f,d⟩;exact⟨l',f.base B,by rw[d];simp[Ru.nodes]⟩
 |node kd a b iha ihb=>
  intro k W v neg H l cs P n X o G;unfold Ru.depth at W;obtain⟨j,rfl⟩:∃ j,k=j+1:=⟨k-1,by omega⟩;rw[(hC j).zAz];unfold zAz zrp;obtain⟨bl,ca,cb,rfl,hbl,u,kb,I,J⟩:=X;have R:=n.bS;unfold sE SS.v;simp(disch:=go_size)only[go_sem,rB,rI,rK,rL,rN,rS,r6,R];have B:Fm No H (aN (aN H (aB 0 [.int .u8 (.ofNat kd),.str 0 0,.str 0 0,.sl bl 0 2 2 true])) (aB 0 (jL (⟨kd,sE,sE,neg⟩,.aA)))):=by exact fP2
  unfold Ru.size at G;refine Ok.ve ((n.aCL B).add (⟨kd,sE,sE,neg⟩,.aA) 72 rfl (by omega) (by omega)) ?_;intro w H1 s;have f1:=s.fm;have n1:=f1.nx;simp only[np]at n1;have D:H1.get H.nx=aB 0 [.int .u8 (.ofNat kd),.str 0 0,.str 0 0,.sl bl 0 2 2 true]:=(s.fm.get _ (by(first|go_size|omega)) fun h=>by have:=n.lt h;omega).trans (by simp(disch:=first|go_size|omega)only[go_sem,rB,rI,rK,rL,rN,rS,r6]);have M:Fm (In v) H H1:=(B.mono fun _ _ h=>absurd h id).then f1 fun _ _ h=>h;have E:H1.get bl=aB 0 (ca++cb):=(M.get bl hbl (o bl u)).trans kb;have S:iG (fun x=>P x/\x<H.nx) H1 a ca:=(I.mono fun b f d=>(⟨d,f⟩:P b/\b<H.nx)).gH M fun b h=>o b h.1;have T:iG (fun x=>P x/\x<H.nx) H1 b cb:=(J.mono fun b f d=>(⟨d,f⟩:P b/\b<H.nx)).gH M fun b h=>o b h.1;have N:∀ x,In w x->In v x\/H.nx+2<=x:=fun x h=>by
   rcases s.nw x h with h|h
   ·exact .inl h
   ·exact .inr (by simp only[np]at h;omega)
  have la:ca.length=4:=by obtain⟨_,_,_,_,h⟩:=I.four;rw[h];rfl
  have lb:cb.length=4:=by obtain⟨_,_,_,_,h⟩:=J.four;rw[h];rfl
  have A:∀ x,¬In AV.aA x:=fun x h=>by obtain⟨_,_,_,_,h⟩:=h;cases h
  have p:∀ x,x<H.nx+2->¬ In v x->¬ In w x:=fun x f d h=>(N x h).elim d fun h=>by omega
  unfold q48;obtain⟨m,Y⟩:∃ m,bL=m+3:=⟨999997,by rw[bZ]⟩;rw[bW,Y];rw[n15];unfold qkc;simp(disch:=go_size)only[go_sem,rB,rI,rK,rL,rN,rS,r6,D];refine qs7 (r:=a) (P:=fun x=>P x/\x<H.nx) (ca:=ca) (cb:=cb) (cc:=ca) (kd:=kd) (bl:=bl) (iha j (by omega)) s.gl (Gl.nil 1 H1) (by omega) (by simp;omega) (by omega) (by omega) D E (by rw[lAS,qb7,kz (by simp;omega),lAA,List.take_left' la]) S (fun x h=>absurd h (A x))
   ⟨p _ (by omega) (fun h=>by have:=n.lt h;omega),A _⟩ ⟨p _ (by omega) (o bl u),A _⟩ (fun x z=>p _ (by omega) (o x z.1)) (fun x _=>A x) ?_
  intro w2 x2 Z l2 xs2 hw2 y K Q hx2 e;rw[n15];unfold qkc;have g:∀ x,x<H1.nx->¬ In w x->¬ In w2 x:=fun x f d h=>(y x h).elim d fun h=>by omega
  have q:¬ In w H.nx:=p _ (by omega) (fun h=>by have:=n.lt h;omega);have F:¬ In w bl:=p _ (by omega) (o bl u);have fw:∀ x,x<H1.nx->¬ In w x->Z.get x=H1.get x:=fun x f d=>Q.get x f fun h=>h.elim d (A x);have n2:=Q.nx;have k2:=(fw _ (by omega) q).trans D;have U:=(fw _ (by omega) F).trans E;simp only[go_sem,k2];have V:iG (fun x=>P x/\x<H.nx) Z b cb:=T.gH Q fun b h=>fun h'=>h'.elim (p _ (by omega) (o b h.1)) (A b);have l2n:l2.length=l.length+1+a.size:=by have:=congrArg List.length K;simp only[pz,ku,gz,uk,qby]at this;omega
  refine qs7 (r:=b) (P:=fun x=>P x/\x<H.nx) (ca:=ca) (cb:=cb) (cc:=cb) (kd:=kd) (bl:=bl) (t:=1) (ihb j (by omega)) hw2 hx2 (by omega) (by omega) (by omega) (by omega) k2 U (by rw[zu,qb7,kz (by simp;omega),List.drop_left' la,<-lb,uz]) V (fun x h=>(e x h).2)
   ⟨g _ (by omega) q,fun h=>by have:=(e _ h).1;omega⟩ ⟨g _ (by omega) F,fun h=>by have:=(e _ h).1;omega⟩ (fun x z=>g _ (by omega) (p _ (by omega) (o x z.1))) (fun x z h=>by have:=(e _ h).1;omega) ?_
  intro w3 x3 H3 l3 xs3 hw3 nw3 L f3 hx3 nx3;rw[n15];unfold qkc;have k3:H3.get H.nx=aB 0 [.int .u8 (.ofNat kd),.str 0 0,.str 0 0,.sl bl 0 2 2 true]:=(f3.get _ (by omega) fun h=>h.elim (g _ (by omega) q) fun h=>by have:=(e _ h).1;omega).trans k2;simp only[go_sem,k3];have l3n:l3.length=l2.length+b.size:=by have:=congrArg List.length L;simp only[pz,ku,qby]at this;omega
  have hS:nQ 5 jL (In v) H H3 w3 l3:=by
   refine⟨hw3,?_,?_⟩
   ·refine(M.then Q fun c hc h=>?_).then f3 fun c hc h=>?_
    ·rcases h with h|h
     ·exact(N c h).elim id fun h=>by omega
     ·simp_all
    ·rcases h with h|h
     ·exact(y c h).elim (fun h=>(N c h).elim id fun h=>by omega) fun h=>by omega
     ·have:=(e c h).1;omega
   ·intro x z;rcases nw3 x z with h|h
    ·rcases y x h with h|h
     ·rcases N x h with h|h
      ·exact .inl h
      ·omega
     ·omega
    ·omega
  refine(q0i (O:=C j) hS (i:=l.length) (by omega) ?_).mono ?_
  ·rcases hx3.is with⟨h,_⟩|⟨_,_,_,_,_,h,_⟩
   ·exact .inl h
   ·simp_all
  ·rintro r H4 ⟨l',f,d⟩;refine⟨l',f,?_⟩;rw[d,L,K];simp[Ru.nodes]
def dZ(kd:Nat)(s:SS)(n:Nd):Bool:=decide (n.k=kd)&&decide (n.rl=s)
def dV(r:Ru)(kd:Nat)(s:SS):Bool:=(r.nodes false).any (dZ kd s)
theorem qxm{O:Ev.Call}{l:List (Nd×AV)}{v:AV}{H:Hp}{kd:Nat}{s:SS}(e:Rs 5 jL H v l)(u:l.length<=1000000){Q:pH}{q:pD}{qr:pB}(j:l.any (fun x=>dZ kd s x.1)=true->Ok (qr (.bool true) H) Q)(m:l.any (fun x=>dZ kd s x.1)=false->Ok (q H) Q):∀(k i:Nat),i<=l.length->l.length-i<k->(l.take i).any (fun x=>dZ kd s x.1)=false -> Ok (q8v O qr q (.int .u8 (.ofNat kd)) s.v v k (iN i) H) Q
 |0,i,_,h,_=>by omega
 |k+1,i,hi,hk,hn=>by
  show Ok (zii O _ _ _ _ _ (q8v O _ _ _ _ _ k) _ H) Q;unfold zii;have w:=e.len;by_cases a:i<l.length
  ·simp only[go_sem,w,a];unfold zih;obtain⟨b,o,t,B,_,C,z⟩:=e.at' i a;have n:bK (H.get b) o=.val (.int .u8 (.ofNat l[i].1.k)):=z 0 (by rw[vK];omega);have p:bK (H.get b) (o+1)=.val (.str l[i].1.rl.n l[i].1.rl.a):=z 1 (by rw[vK];omega);have y:(l.take (i+1)).any (fun x=>dZ kd s x.1)=dZ kd s l[i].1:=by
    rw[lw a,ik,hn];simp
   unfold SS.v;by_cases f:l[i].1.k=kd
   ·have c:=zg f;by_cases g:l[i].1.rl.n=s.n/\l[i].1.rl.a=s.a
    ·have r:=zg g;have d:dZ kd s l[i].1=true:=by unfold dZ;rw[qw f,qw ((mZ _ _).2 g)];rfl
     simp only[go_sem,t,n,p,c,r];refine j ?_;rw[zt];exact⟨l[i],lg a,d⟩
    ·have d:dZ kd s l[i].1=false:=by unfold dZ;rw[uA (fun h=>g ((mZ _ _).1 h))];simp
     simp only[go_sem,t,n,p,c,g];unfold zie;simp(disch:=go_size)only[go_sem,rB,rI,rK,rL,rN,rS,r6];exact qxm e u j m k (i+1) (by omega) (by omega) (by rw[y,d])
   ·have d:dZ kd s l[i].1=false:=by unfold dZ;rw[uA f];simp
    simp only[go_sem,t,n,p,f];unfold zie;simp(disch:=go_size)only[go_sem,rB,rI,rK,rL,rN,rS,r6];exact qxm e u j m k (i+1) (by omega) (by omega) (by rw[y,d])
  ·have A:i=l.length:=by omega
   simp only[go_sem,w,a];rw[A,uz]at hn;exact m hn
theorem zxq(e:aV C){r:Ru}(y:r.depth+1<=k)(z:r.size<=100000){P:Nat->Prop}(f:iG P H r cs)(kd:Nat)(s:SS):Ok (C k (.f 30) [.agg cs,.int .u8 (.ofNat kd),s.v] H) fun v H'=>v=.bool (dV r kd s)/\Fm No H H':=by
 obtain⟨j,rfl⟩:∃ j,k=j+1:=⟨k-1,by omega⟩;rw[(e j).zAs];unfold zAs z0m;obtain⟨c0,q,t,u,rfl⟩:=f.four;simp(disch:=omega)only[go_sem,seval];have g:Fm No H (aN H (aB 0 [c0,q,t,u])):=by exact mG
 have i:∀ x,¬In AV.aA x:=fun x h=>by obtain⟨_,_,_,_,h⟩:=h;cases h
 refine Ok.ve (qxe e r j (by omega) .aA false _ (l:=[]) (Gl.nil 5 _) (f.fm g) (fun b _=>i b) (by simp;omega)) ?_;rintro w H1 ⟨l,n,o⟩;have m:Fm No H H1:=g.then n.fm fun c _ h=>absurd h (i c);have p:l.length=r.size:=by have:=congrArg List.length o;simpa [qby] using this
 have a:dV r kd s=l.any (fun x=>dZ kd s x.1):=by
  have d:l.map Prod.fst=r.nodes false:=by simpa using o
  unfold dV;rw[<-d,lAF];rfl
 unfold zw0;rw[bW];refine qxm (n.gl.rs vK) (by omega) (fun h=>?_) (fun h=>?_) bL 0 (gy _) (by rw[bZ];omega) rfl
 ·exact Ok.ret ⟨by rw[a,h],m⟩
 ·unfold zif;exact Ok.ret ⟨by rw[a,h],m⟩
structure iY where
 name:SS
 types:List jP
 rule:Ru
structure yJ where
 name:SS
 bE:List iY
structure aT where
 r:iY
 tv:AV
 cs:List AV
def eP(g:aT):List AV:=[g.r.name.v,g.tv,g.cs.getD 0 .undef,g.cs.getD 1 .undef,g.cs.getD 2 .undef,g.cs.getD 3 .undef]
theorem qdj(g:aT):(eP g).length=6:=rfl
structure rJ(A B:Nat)(H:Hp)(rv:AV)(gs:List aT):Prop where
 gl:Gl 6 H rv gs.length (gs.flatMap eP)
 rQ:∀ b,In rv b->A<=b/\b<B
 ty:∀ g∈gs,Rs 2 tC H g.tv g.r.types/\(g.tv=.aA\/∃ b o n m e,g.tv=.sl b o n m e/\n<=m/\0<n)/\∀ b,In g.tv b->A<=b/\b<B/\¬ In rv b
 ru:∀ g∈gs,iG (fun b=>A<=b/\b<B/\¬ In rv b) H g.r.rule g.cs
theorem rJ.nil(A B:Nat)(H:Hp):rJ A B H .aA []:=⟨Gl.nil 6 H,(fun b h=>by obtain⟨_,_,_,_,h⟩:=h;cases h),(fun g a=>by cases a),(fun g a=>by cases a)⟩
theorem rJ.gH{A B:Nat}{rv:AV}{e:List aT}(h:rJ A B H rv e)(f:Fm S H H')(d:∀ b,A<=b->b<B->¬ S b):rJ A B H' rv e:=
 ⟨h.gl.fm f fun b a=>d b (h.rQ b a).1 (h.rQ b a).2,h.rQ,fun g c=>⟨(h.ty g c).1.gH f fun b a=>d b ((h.ty g c).2.2 b a).1 ((h.ty g c).2.2 b a).2.1,(h.ty g c).2⟩,
  fun g c=>(h.ru g c).gH f fun b a=>d b a.1 a.2.1⟩
theorem rJ.up{A B c:Nat}{rv:AV}{d:List aT}(h:rJ A B H rv d)(e:B<=c):rJ A c H rv d:=
 ⟨h.gl,fun b x=>⟨(h.rQ b x).1,lq (h.rQ b x).2 e⟩,fun g a=>⟨(h.ty g a).1,(h.ty g a).2.1,fun b x=>by have:=(h.ty g a).2.2 b x;exact⟨this.1,by omega,this.2.2⟩⟩,
  fun g a=>(h.ru g a).mono fun b _ x=>⟨x.1,by omega,x.2.2⟩⟩
structure aM where
 name:SS
 gs:List aT
 rv:AV
 A:Nat
 B:Nat
def sI(g:aM):List AV:=[g.name.v,g.rv]
theorem qdb(g:aM):(sI g).length=2:=rfl
def aM.sp(g:aM):yJ:=⟨g.name,g.gs.map aT.r⟩
variable {g:aM}
structure j6(H:Hp)(sv:AV)(l:List aM):Prop where
 gl:Gl 2 H sv l.length (l.flatMap sI)
 ord:l.Pairwise fun a b=>a.B<=b.A
 rel:∀ g∈l,rJ g.A g.B H g.rv g.gs/\g.B<=H.nx
 dj:∀ g∈l,∀b,In sv b->¬(g.A<=b/\b<g.B)
theorem j6.no{l:List aM}(h:j6 H sv l)(f:Fm No H H'):j6 H' sv l:=
 ⟨h.gl.no f,h.ord,fun g a=>⟨(h.rel g a).1.gH f fun _ _ _ h=>h,rq (h.rel g a).2 f.nx⟩,h.dj⟩
theorem j6.gH{l:List aM}(h:j6 H sv l)(f:Fm S H H')(c:∀ b,In sv b->¬ S b)(d:∀ g∈l,∀b,g.A<=b->b<g.B->¬ S b):j6 H' sv l:=
 ⟨h.gl.fm f c,h.ord,fun g a=>⟨(h.rel g a).1.gH f (d g a),rq (h.rel g a).2 f.nx⟩,h.dj⟩
theorem j6.push{sv i:AV}{l:List aM}(h:j6 H sv l)(f:Fm S H H')(j:∀ g∈l,∀b,g.A<=b->b<g.B->¬ S b)(d:SS)(k:Gl 2 H' i (l.length+1) (l.flatMap sI++[d.v,.aA]))(m:∀ b,In i b->H.nx<=b):j6 H' i (l++[⟨d,[],.aA,H'.nx,H'.nx⟩]):=by
 refine⟨?_,?_,?_,?_⟩
 ·rw[ku,vk,vw];exact k
 ·rw[yf];refine⟨h.ord,zn _ _,fun a n b e=>?_⟩;rw[gq]at e;subst e;exact rq (h.rel a n).2 f.nx
 ·intro g c;rw[pg,gq]at c;rcases c with c|rfl
  ·exact⟨(h.rel g c).1.gH f (j g c),rq (h.rel g c).2 f.nx⟩
  ·exact⟨rJ.nil _ _ _,lh _⟩
 ·intro g c b e;rw[pg,gq]at c;rcases c with c|rfl
  ·have:=m b e;have:=(h.rel g c).2;omega
  ·simp
def lM(L:List (List Nat))(n:Nat):iY:=⟨fD n,kE L n,(eO L n 6 2 false).1⟩
structure OfI(L:List (List Nat))(v:AV)(H0 H:Hp)(cb sb:Nat)(sv:AV)(l:List aM)(g:aM):Prop where
 cbk:yR H cb v
 sbk:H.get sb=aB 0 [sv]
 sbl:H0.nx<=sb/\sb<g.A/\sb<H.nx
 cbl:cb<g.A
 ne:cb<sb\/sb<cb
 ns:¬ In sv sb/\¬ In sv cb
 tF:∀ b,In sv b->H0.nx<=b/\b<g.A
 sbd:∀ x∈l,¬(x.A<=sb/\sb<x.B)
 m:j6 H sv (l++[g])
 an:∀ x∈l++[g],H0.nx<=x.A
 ax:g.A<=H.nx
 fm:Fm No H0 H
theorem zkp(X:List AV)(a b c:AV):aY (X++[a,b]) (X.length+1) [c]=X++[a,c]:=by unfold aY;rw[iw,ui,iy];simp
theorem zsw(hC:aV C)(hj:20<=j){L:List (List Nat)}{v:AV}(hn:n<bD L){cb sb:Nat}{l:List aM}(hv:gT H0 v L)(f:OfI L v H0 H cb sb sv l g)(hl:l.length=1+n / 4)(hgs:g.gs.length<=12){G:pB}{Q:pH}(hG:∀(H':Hp) (rv':AV) (rg:aT),rg.r=lM L n->OfI L v H0 H' cb sb sv l ⟨g.name,g.gs++[rg],rv',g.A,H'.nx⟩->Ok (G (iN ((n+1))) H') Q):Ok (qkl (C j) G (.ptr cb 0) (.ptr sb 0) (iN n) H) Q:=by
 have hm:bD L<=12:=xh _ _;have O:=hv.fm f.fm;rw[qse];unfold qwb;have e0:=f.cbk.is;simp only[go_sem,e0];refine Ok.ve (z1k hC 6 j (by omega) 2 1 false H (by omega) (by omega) O ⟨hn,hm,fun h=>by cases h⟩) ?_;rintro _ H1 ⟨cs,rfl,R,U⟩;obtain⟨c0,A,B,D,rfl⟩:=R.four;have n1:=U.nx;have u:=f.sbl;have s1:=(U.keep u.2.2).trans f.sbk;have r:=f.m.no U;have W:1+n / 4<(l++[g]).length:=by simp;omega
 obtain⟨b,o,i1,i2,i3,i4,i5⟩:=(r.gl.rs qdb).at' (1+n / 4) W;have P:(l++[g])[1+n / 4]=g:=by rw[List.getElem_append_right (by omega)];simp[hl]
 rw[P]at i4 i5;have r1:bK (H1.get b) (o+1)=.val g.rv:=i5 1 (by rw[qdb];omega);have cl:=f.cbk.lt;have X:cb<H1.nx:=by omega
 have k1:=(f.cbk.fm U).is;simp(disch:=go_size)only[go_sem,rB,rI,rK,rL,rN,rS,r6,s1,i1,r1,k1];have er:oQ 64 g.rv g.rv=true:=by refine qck ?_ 63;rcases(r.rel g (by simp)).1.gl.is with⟨h,_⟩|⟨_,_,_,_,_,h,_⟩<;>(rw[h];rfl)
 have ev:oQ 64 (.agg [v]) (.agg [v])=true:=qk6 _ (by unfold Tr;rw[lEG,O.flat];rfl);have ec:oQ 64 (.agg [c0,A,B,D]) (.agg [c0,A,B,D])=true:=qk6 _ (by unfold Tr;rw[R.flat];rfl);have fX:Fm No H1 ⟨((aN H1 (aB 0 [.int .u8 (.ofNat 0),.str 0 0,.str 0 0,.aA])).put H1.nx (aB 0 [c0,A,B,D])).t,H1.nx+1+17⟩:=by(repeat(first|exact Fm.refl _ _|assumption|refine Fm.push ?_ _|refine Fm.fC ?_ (by go_size)|refine Fm.aD ?_ _ _ (by go_size)))
 refine Ok.kF (qzt hC (k:=j) (by omega) n (by omega) _) ?_;rintro _ H3 ⟨rfl,f3⟩;have n3:H1.nx+1+17<=H3.nx:=f3.nx;have q3:H3.get H1.nx=aB 0 [c0,A,B,D]:=(f3.keep (show H1.nx<H1.nx+1+17 by omega)).trans (by simp only[go_sem]);have z:=fX.trans f3;have k3:=(z.keep X).trans k1;have r3:bK (H3.get b) (o+1)=.val g.rv:=by rw[z.keep i2];exact r1
 unfold SS.v;simp only[go_sem,seval,q3,k3,r3,er,ev,ec];refine Ok.kF (q9a hC (k:=j) (by omega) ((O.fm U).fm z) hn) ?_;intro tv E ht;have Y:=ht.fm;have n4:=Y.nx;have q4:=(Y.keep (show H1.nx<H3.nx by omega)).trans q3;have k4:=(Y.keep (by omega)).trans k3;have r4:bK (E.get b) (o+1)=.val g.rv:=by rw[Y.keep (by omega)];exact r3
 have htl:0<(kE L n).length:=by unfold kE tO;simp
 obtain⟨tb,to,t,htv⟩:∃ tb to t,tv=.sl tb to (kE L n).length (kE L n).length t:=by
  rcases ht.gl.is with⟨_,h⟩|⟨tb,to,t,_,_,h,_⟩
  ·omega
  ·exact⟨tb,to,t,h⟩
 subst htv;simp only[go_sem,seval,q4,k4,r4,er,ev,ec];have gB:g.B<=H.nx:=(f.m.rel g (by simp)).2;have ax:=f.ax;have fV:Fm No H1 (E.put (H1.nx+1+12) (aB 0 [.str (fD n).n (fD n).a,.sl tb to (kE L n).length (kE L n).length t,c0,A,B,D])):=(z.trans Y).aD _ _ (by omega);have bDm:=(r.rel g (by simp)).1.gH fV fun _ _ _ h=>h;obtain⟨H5,e5,g5,q5,f5,n5⟩:=bDm.gl.append (k:=1) (w:=104) (x:=[.str (fD n).n (fD n).a,.sl tb to (kE L n).length (kE L n).length t,c0,A,B,D]) (by omega) rfl (by omega) (by omega);simp only[nq]at e5 g5 q5 n5;refine Ok.xW e5 ?_;have m:∀ x,In g.rv x->g.A<=x/\x<g.B:=fun x e=>(r.rel g (by simp)).1.rQ x e;have J:=f.tF;have Z:Fm (In g.rv) H1 H5:=(fV.mono fun _ _ h=>absurd h id).then f5 fun _ _ h=>h;have gl5:Gl 2 H5 sv (l++[g]).length ((l++[g]).flatMap sI):=r.gl.fm Z fun x e h=>by have:=(J x e).2;have:=(m x h).1;omega
 obtain⟨b',o',s,V,e6,g6,f6,n6⟩:=gl5.set1 W (j:=1) (by omega) (.sl E.nx 0 (g.gs.length+1) (g.gs.length+1) false);rw[i1]at V;injection V with V;injection V with V i7;subst V i7;simp only[go_sem,seval,e6];rw[qsg];unfold qwc;simp(disch:=omega)only[go_sem];have i:Fm (fun x=>In g.rv x\/In sv x) H1 s:=(Z.mono fun _ _ h=>.inl h).then f6 fun _ _ h=>.inr h;have n16:H1.nx<=s.nx:=i.nx;have K:∀ x,x<g.A->¬ In sv x->x<H1.nx->s.get x=H1.get x:=fun x I M N=>i.get x N fun h=>h.elim (fun h=>by have:=(m x h).1;omega) M;refine hG s (.sl E.nx 0 (g.gs.length+1) (g.gs.length+1) false) ⟨lM L n,.sl tb to (kE L n).length (kE L n).length t,[c0,A,B,D]⟩ rfl ⟨⟨by omega,(K cb f.cbl f.ns.2 X).trans k1⟩,(K sb u.2.1 f.ns.1 (by omega)).trans s1,⟨u.1,u.2.1,by omega⟩,f.cbl,f.ne,f.ns,f.tF,f.sbd,?_,?_,by show g.A<=s.nx;omega,?_⟩
 ·have S:∀ x,In (.sl E.nx 0 (g.gs.length+1) (g.gs.length+1) false) x->x=E.nx:=fun x e=>by
   obtain⟨_,_,_,_,e⟩:=e;cases e;rfl
  refine⟨?_,?_,?_,?_⟩
  ·rw[ku,vk,vw]at g6 ⊢;rw[show(1+n / 4)*2+1=(l.flatMap sI).length+1 by
    have:∀ q:List aM,(q.flatMap sI).length=q.length*2:=fun q=>by
     induction q with
     |nil=>rfl
     |cons a q ih=>rw[xF,ku,ih,qdb,gz];omega
    rw[this,hl]]at g6
   unfold sI at g6 ⊢;rw[zkp]at g6;exact g6
  ·have T:=r.ord;rw[yf]at T ⊢;refine⟨T.1,zn _ _,fun a ha c d=>?_⟩;rw[gq]at d;subst d;exact T.2.2 a ha g (by simp)
  ·intro x e;rw[pg,gq]at e;rcases e with e|rfl
   ·have T:=r.ord;rw[yf]at T;have hxg:=T.2.2 x e g (by simp);refine⟨(r.rel x (by simp[e])).1.gH i fun c I M h=>?_,rq (r.rel x (by simp[e])).2 n16⟩;rcases h with h|h
    ·have:=(m c h).1;omega
    ·exact r.dj x (by simp[e]) c h ⟨I,M⟩
   ·have hr:=(r.rel g (by simp)).1;refine⟨⟨?_,?_,?_,?_⟩,lh _⟩
    ·show Gl 6 s _ (g.gs++[_]).length ((g.gs++[_]).flatMap eP);rw[ku,vk,vw];exact g5.fm f6 fun c d h=>by have:=S c d;have:=(J c h).2;omega
    ·intro c d;have:=S c d;show g.A<=c/\c<s.nx;omega
    ·intro y F;show _/\_/\∀ c,In y.tv c->g.A<=c/\c<s.nx/\_;rw[pg,gq]at F;rcases F with F|rfl
     ·obtain⟨I,M,N⟩:=hr.ty y F;refine⟨I.gH i fun c d h=>?_,M,fun c d=>⟨(N c d).1,by have:=(N c d).2.1;omega,fun h=>by have:=S c h;have:=(N c d).2.1;omega⟩⟩;rcases h with h|h
      ·exact(N c d).2.2 h
      ·have:=(J c h).2;have:=(N c d).1;omega
     ·have p:∀ c,In (.sl tb to (kE L n).length (kE L n).length t) c->H3.nx<=c/\c<E.nx:=fun c d=>⟨ht.nw c d,ht.gl.lt d⟩;refine⟨?_,.inr ⟨_,_,_,_,_,rfl,lh _,zb2 L n⟩,fun c d=>⟨by have:=(p c d).1;omega,by have:=(p c d).2;omega,fun h=>by have:=S c h;have:=(p c d).2;omega⟩⟩;have bC6:Fm (fun x=>x=H1.nx+1+12) E (E.put (H1.nx+1+12) (aB 0 [.str (fD n).n (fD n).a,.sl tb to (kE L n).length (kE L n).length t,c0,A,B,D])):=(Fm.refl _ _).put _ _ fun _=>rfl;refine(((ht.rs qi6).gH bC6 fun c d h=>?_).gH f5 fun c d h=>?_).gH f6 fun c d h=>?_
      ·have:=(p c d).1;omega
      ·have:=(p c d).1;have:=(m c h).2;omega
      ·have:=(p c d).1;have:=(J c h).2;omega
    ·intro y F;show iG (fun c=>g.A<=c/\c<s.nx/\_) s _ _;rw[pg,gq]at F;rcases F with F|rfl
     ·refine((hr.ru y F).gH i fun c d h=>?_).mono fun c _ d=>⟨d.1,by omega,fun h=>by have:=S c h;omega⟩;rcases h with h|h
      ·exact d.2.2 h
      ·have:=(J c h).2;omega
     ·have I:iG (fun c=>H.nx<=c/\c<H1.nx) H1 (eO L n 6 2 false).1 [c0,A,B,D]:=R.mono fun c I M=>⟨M,I⟩;refine(I.gH i fun c d h=>?_).mono fun c _ d=>⟨by omega,by omega,fun h=>by have:=S c h;omega⟩;rcases h with h|h
      ·have:=(m c h).2;omega
      ·have:=(J c h).2;omega
  ·intro x e c d;rw[pg,gq]at e;rcases e with e|rfl
   ·exact r.dj x (by simp[e]) c d
   ·have:=(J c d).2;show ¬(g.A<=c/\_);omega
 ·intro x e;rw[pg,gq]at e;rcases e with e|rfl
  ·exact f.an x (by simp[e])
  ·exact f.an g (by simp)
 ·refine(f.fm.trans U).then i fun c d h=>?_;rcases h with h|h
  ·have:=(m c h).1;have:=f.an g (by simp);omega
  ·have:=(J c h).1;omega
theorem zlg(J:aV C)(Y:20<=j){L:List (List Nat)}{v:AV}(Z:n<bD L)(K:n%4=0){cb sb:Nat}{l:List aM}(d:OfI L v H0 H cb sb sv l g)(hl:l.length<=1000){G:pB}{Q:pH}(M:∀(H':Hp) (N:AV) (A:Nat),OfI L v H0 H' cb sb N (l++[g]) ⟨bY (n / 4),[],.aA,A,A⟩->Ok (qkl (C j) G (.ptr cb 0) (.ptr sb 0) (iN n) H') Q):Ok (qwj (C j) G (.ptr cb 0) (.ptr sb 0) (iN n) H) Q:=by
 have hm:bD L<=12:=xh _ _;rw[qh1];unfold qi1;have f:=d.sbl;have s0:=d.sbk;have p:=d.m;have O:oQ 64 sv sv=true:=by refine qck ?_ 63;rcases p.gl.is with⟨h,_⟩|⟨_,_,_,_,_,h,_⟩<;>(rw[h];rfl)
 simp(disch:=go_size)only[go_sem,rB,rI,rK,rL,rN,rS,r6,s0,K];have P:Fm No H ⟨H.t,H.nx+10⟩:=by(repeat(first|exact Fm.refl _ _|assumption|refine Fm.push ?_ _|refine Fm.fC ?_ (by go_size)|refine Fm.aD ?_ _ _ (by go_size)))
 refine Ok.kF (qms J (k:=j) (by omega) (n / 4) (by omega) _) ?_;rintro _ H1 ⟨rfl,D⟩;have i:=P.trans D;have n1:H.nx+10<=H1.nx:=D.nx;have R:=(i.keep f.2.2).trans s0;unfold SS.v;simp only[go_sem,seval,R,O];have r:Fm No H (H1.put (H.nx+6) (aB 0 [.str (bY (n / 4)).n (bY (n / 4)).a,.aA])):=i.aD _ _ (by omega);have S:=p.no r;obtain⟨e,E,F,W,I,X⟩:=S.gl.append (k:=1) (w:=40) (x:=[.str (bY (n / 4)).n (bY (n / 4)).a,.aA]) (by omega) rfl (by simp;omega) (by simp;omega);simp only[nq]at E F W X;have s:e.get sb=aB 0 [sv]:=(I.get sb (by simp only[nq];omega) d.ns.1).trans ((r.keep f.2.2).trans s0);refine Ok.xW E ?_;simp only[go_sem,seval,s];have y:Fm (fun x=>x=sb) e (e.put sb (aB 0 [.sl H1.nx 0 ((l++[g]).length+1) ((l++[g]).length+1) false])):=(Fm.refl _ _).put _ _ fun _=>rfl;have z:Fm (In sv) H e:=(r.mono fun _ _ h=>absurd h id).then I fun _ _ h=>h;have B:Fm (fun x=>In sv x\/x=sb) H (e.put sb (aB 0 [.sl H1.nx 0 ((l++[g]).length+1) ((l++[g]).length+1) false])):=(z.mono fun _ _ h=>.inl h).then y fun _ _ h=>.inr h;have m:∀ x,In (.sl H1.nx 0 ((l++[g]).length+1) ((l++[g]).length+1) false) x->x=H1.nx:=fun x a=>by obtain⟨_,_,_,_,a⟩:=a;cases a;rfl
 have T:=d.tF;have U:=d.cbk.lt;have o:∀ x∈l++[g],¬(x.A<=sb/\sb<x.B):=fun x a=>by
  rw[pg,gq]at a;rcases a with a|rfl
  ·exact d.sbd x a
  ·omega
 refine M _ (.sl H1.nx 0 ((l++[g]).length+1) ((l++[g]).length+1) false) e.nx ⟨⟨?_,?_⟩,dL _ _ _,⟨f.1,?_,?_⟩,?_,d.ne,⟨fun h=>?_,fun h=>?_⟩,fun x a=>?_,o,?_,fun x a=>?_,lh _,?_⟩
 ·show cb<e.nx;omega
 ·rw[eB _ _ _ _ (by have:=d.ne;omega)];exact(z.get cb U d.ns.2).trans d.cbk.is
 ·show sb<e.nx;omega
 ·show sb<e.nx;omega
 ·show cb<e.nx;omega
 ·have:=m _ h;omega
 ·have:=m _ h;omega
 ·have V:=d.fm.nx;have:=m _ a;show _/\x<e.nx;omega
 ·refine p.push B (fun x a b t u h=>?_) _ ?_ fun b q=>by have:=m _ q;omega
  ·rcases h with h|rfl
   ·exact p.dj x a b h ⟨t,u⟩
   ·exact o x a ⟨t,u⟩
  ·exact F.fm y fun b q h=>by have:=m _ q;omega
 ·rw[pg,gq]at a;rcases a with a|rfl
  ·exact d.an x a
  ·have V:=d.fm.nx;show H0.nx<=e.nx;omega
 ·refine d.fm.then B fun c hc h=>?_;rcases h with h|rfl
  ·have:=(T c h).1;omega
  ·omega
def spN(L:List (List Nat))(i n:Nat):yJ:=⟨bY i,(rg (4*i) n).map (lM L)⟩
def spF(L:List (List Nat))(i:Nat):yJ:=spN L i (4*i+4)
def pre(L:List (List Nat))(q:Nat):List yJ:=⟨sU,[]⟩::(List.range q).map (spF L)
theorem ztb(L:List (List Nat))(q:Nat):pre L (q+1)=pre L q++[spF L q]:=by unfold pre;rw[oz,uj];rfl
def Mid(L:List (List Nat))(n:Nat)(l:List aM)(g:aM):Prop:=∃ q,l.map aM.sp=pre L q/\g.sp=spN L q n/\4*q<=n/\n<4*q+4
def St(L:List (List Nat))(n:Nat)(l:List aM)(g:aM):Prop:=(n=0/\l=[]/\g.sp=⟨sU,[]⟩)\/∃ q,l.map aM.sp=pre L q/\g.sp=spN L q n/\4*q<n/\n<=4*q+4
theorem Mid.len{L:List (List Nat)}{l:List aM}(h:Mid L n l g):l.length=1+n / 4/\g.gs.length<=4:=by obtain⟨q,c,d,e,f⟩:=h;have a:=congrArg List.length c;have b:=congrArg (fun s=>s.bE.length) d;simp only[pz,pre,gz,lE4,aM.sp,spN,qll]at a b;omega
theorem Mid.rel{L:List (List Nat)}{l:List aM}(h:Mid L n l g){rv:AV}{A B:Nat}{r:aT}(a:r.r=lM L n):St L (n+1) l ⟨g.name,g.gs++[r],rv,A,B⟩:=by obtain⟨q,b,c,d,e⟩:=h;refine .inr ⟨q,b,?_,by omega,by omega⟩;unfold aM.sp spN at *;injection c with e1 e2;rw[qkt d,uj,uj,e1,e2];simp[a]
theorem St.push{L:List (List Nat)}{l:List aM}(h:St L n l g)(d:n%4=0)(A:Nat):Mid L n (l++[g]) ⟨bY (n / 4),[],.aA,A,A⟩:=by
 rcases h with⟨rfl,rfl,h⟩|⟨q,b,c,e,f⟩
 ·exact⟨0,by simp[pre,h],rfl,by omega,by omega⟩
 ·have a:n=4*q+4:=by omega
  subst a;refine⟨q+1,by rw[uj,b,ztb,ah,c];rfl,?_,by omega,by omega⟩;unfold aM.sp spN;rw[show(4*q+4) / 4=q+1 by omega,show 4*q+4=4*(q+1)by omega,qw3];rfl
theorem St.mid{L:List (List Nat)}{l:List aM}(h:St L n l g)(c:¬ n%4=0):Mid L n l g:=by
 rcases h with⟨rfl,_,_⟩|⟨q,a,b,d,e⟩
 ·omega
 ·exact⟨q,a,b,by omega,by omega⟩
theorem St.len{L:List (List Nat)}{l:List aM}(h:St L n l g)(c:n<=12):l.length<=4:=by
 rcases h with⟨rfl,rfl,_⟩|⟨q,b,d,e,f⟩
 ·simp
 ·have a:=congrArg List.length b;simp only[pz,pre,gz,lE4]at a;omega
theorem zls(f:aV C){j:Nat}(m:20<=j){L:List (List Nat)}{v:AV}{H0:Hp}{cb sb:Nat}(o:gT H0 v L){Q:pH}{q:pD}(r:∀(H:Hp) (sv:AV) (l:List aM) (g:aM),OfI L v H0 H cb sb sv l g->St L (bD L) l g->Ok (q H) Q):∀(k n:Nat) (l:List aM) (g:aM) (sv:AV) (H:Hp),n<=bD L->bD L-n<k->OfI L v H0 H cb sb sv l g->St L n l g -> Ok (qkj (C j) q (.ptr cb 0) (.ptr sb 0) k (iN n) H) Q
 |0,n,_,_,_,_,_,h,_,_=>by omega
 |k+1,n,l,g,sv,H,hi,hk,a,hS=>by
  show Ok (q5x (C j) _ _ _ (qkj (C j) _ _ _ k) _ H) Q;unfold q5x;have z:bD L<=12:=xh _ _;have w:=a.cbk.is;simp only[go_sem,w];refine Ok.ve (qk1 f (k:=j) (by omega) (o.fm a.fm)) ?_;rintro _ s ⟨rfl,e⟩;have d:OfI L v H0 s cb sb sv l g:=⟨a.cbk.fm e,(e.keep a.sbl.2.2).trans a.sbk,⟨a.sbl.1,a.sbl.2.1,lq a.sbl.2.2 e.nx⟩,a.cbl,a.ne,a.ns,a.tF,a.sbd,a.m.no e,a.an,rq a.ax e.nx,a.fm.trans e⟩;by_cases b:n<bD L
  ·simp only[go_sem,b];have next:∀(l:List aM) (g:aM) (sv:AV) (H:Hp),OfI L v H0 H cb sb sv l g->Mid L n l g->Ok (qkl (C j) (qkj (C j) q (.ptr cb 0) (.ptr sb 0) k) (.ptr cb 0) (.ptr sb 0) (iN n) H) Q:=by
    intro l g sv H a p;refine zsw f m b o a p.len.1 (by have:=p.len.2;omega) fun H' t rg u c=>?_;exact zls f m o r k (n+1) l _ sv H' (by omega) (by omega) c (p.rel u)
   by_cases i:n%4=0
   ·refine zlg f m b i d (by have:=hS.len (by omega);omega) fun H' y A c=>?_;exact next _ _ _ _ c (hS.push i A)
   ·rw[qh1];unfold qi1;simp(disch:=go_size)only[go_sem,rB,rI,rK,rL,rN,rS,r6,i];exact next _ _ _ _ d (hS.mid i)
  ·have x:n=bD L:=by omega
   subst x;simp only[go_sem,b];exact r s sv l g d hS
theorem Gl.sub{v:AV}(h:Gl z H v n l)(a:i<n):∃ b o,aG z v (iN i)=.val (.ptr b o)/\b<H.nx/\In v b/\∀ s k,s+k<=z->jG (H.get b) (o+s) k=some ((((l.drop (i*z)).take z).drop s).take k):=by
 have d:=h.len;rcases h.is with⟨rfl,rfl⟩|⟨b,o,e,q,L,rfl,g,t,c,u,j⟩
 ·omega
 ·have p:i*z+z<=n*z:=by
   have:(i+1)*z<=n*z:=um z a;rw[xk,zu]at this;exact this
  have r:o+n*z=L.length:=by rw[<-c,xx]at d;omega
  refine⟨b,o+i*z,uT _ _ _ _ _ _ _ _ a,j,⟨_,_,_,_,rfl⟩,fun s k m=>?_⟩;have f:((l.drop (i*z)).take z).drop s=(L.drop (o+i*z+s)).take (z-s):=by rw[List.drop_take,<-c,lAB,lAB,ui]
  rw[f,List.take_take,yz (by omega),g,qb7,kz (by omega)]
theorem rJ.at{A B:Nat}{rv:AV}{a:List aT}(h:rJ A B H rv a)(d:i<a.length):∃b o,aG 6 rv (iN i)=.val (.ptr b o)/\b<H.nx/\In rv b/\bK (H.get b) o=.val (.str a[i].r.name.n a[i].r.name.a)/\bK (H.get b) (o+1)=.val a[i].tv/\jG (H.get b) (o+2) 4=some a[i].cs/\jG (H.get b) o 6=some (eP a[i]):=by obtain⟨b,o,e,g,j,k⟩:=h.gl.sub d;obtain⟨n,p,c,_,_,l,f⟩:=(h.gl.rs qdj).at' i d;rw[e]at c;injection c with c;injection c with c g2;subst c g2;refine⟨b,o,e,g,j,f 0 (by rw[qdj];omega),f 1 (by rw[qdj];omega),?_,l⟩;rw[k 2 4 (by omega),qgg qdj a i d];obtain⟨c0,q,r,s,m⟩:=(h.ru a[i] (lg d)).four;unfold eP;rw[m];rfl
def qwp(bE:List iY)(r:iY):Bool:=dV r.rule 1 sE||bE.any fun x=>dV x.rule 3 r.name
theorem qop(m:aV C){j:Nat}(p:20<=j){A B:Nat}{rv:AV}{a:List aT}{H0:Hp}(n:rJ A B H0 rv a)(e:a.length<=1000)(hd:∀ g∈a,g.r.rule.depth<=12/\g.r.rule.size<=10000){f:Nat}(l:f<a.length){u0:Bool}{Q:pH}{q:pB}(s:∀ H,Fm No H0 H->Ok (q (.bool (u0||a.any fun x=>dV x.r.rule 3 a[f].r.name)) H) Q):∀(k i:Nat) (u:Bool) (H:Hp),i<=a.length->a.length-i<k->Fm No H0 H->u=(u0||(a.take i).any fun x=>dV x.r.rule 3 a[f].r.name) -> Ok (qoj (C j) q rv (iN f) k (.bool u) (iN i) H) Q
 |0,i,_,_,_,h,_,_=>by omega
 |k+1,i,u,H,hi,hk,hf,hu=>by
  show Ok (q5y (C j) _ _ _ (qoj (C j) _ _ _ k) _ _ H) Q;unfold q5y;have d:=n.gH hf fun _ _ _ h=>h;have t:=d.gl.bS;by_cases c:i<a.length
  ·simp only[go_sem,t,c];rw[qsk];unfold qwg;have v:((a.take (i+1)).any fun x=>dV x.r.rule 3 a[f].r.name)=(((a.take i).any fun x=>dV x.r.rule 3 a[f].r.name)||dV a[i].r.rule 3 a[f].r.name):=by
    rw[lw c,ik];simp
   cases u with
   |true=>rw[qkm];unfold qmq;simp(disch:=go_size)only[go_sem,rB,rI,rK,rL,rN,rS,r6];refine qop m p n e hd l s k (i+1) true H (by omega) (by omega) hf ?_;rw[v,<-Bool.or_assoc,<-hu];rfl
   |false=>obtain⟨b,o,w,I,_,_,_,y,_⟩:=d.at c;obtain⟨J,K,z,L,_,D,_,_,_⟩:=d.at l;simp only[go_sem,w,y,z,D];refine Ok.kF (zxq m (k:=j) (r:=a[i].r.rule) (by have:=(hd _ (lg c)).1;omega) (by have:=(hd _ (lg c)).2;omega) (d.ru _ (lg c)) 3 a[f].r.name) ?_;rintro _ E ⟨rfl,F⟩;rw[qkm];unfold qmq;simp(disch:=go_size)only[go_sem,rB,rI,rK,rL,rN,rS,r6];refine qop m p n e hd l s k (i+1) _ E (by omega) (by omega) (hf.trans F) ?_;simp_all
  ·have G:i=a.length:=by omega
   simp only[go_sem,t,c];simp_all
end Go.Di
end
