/-
 For StrataTurns: the evaluator and its soundness, part 4 of 4: what a run of the abstract evaluator answers, the model's run answers, in every world and on every schedule. No conditions beyond those that each theorem states.
-/
import Derived.Test.YtighkibjecdbnaaGreatEv3
import Derived.Sort.Grow
import Derived.Sort.EveryDepth
import Derived.Sort.Defs
import Derived.Shelf.GgSortFunc.InsertionK
import Derived.Lib.BitFns
import Derived.WideKeyArgs
import Derived.Carry
import Derived.OpenShut
import Derived.ProofKit
import Derived.WalkKit
noncomputable section
namespace Go.Di
open Go.Ev
variable {d:Nat}
def G(L:TT AV d)(i:Nat):AV:=(dJ d i).f L
abbrev Kt(d:Nat):=Ex->TT AV d->Hp->R1
def fin(r:Rc d)(K:Kt d):R1:=match r with| .bad=>.bad| .ok e L H=>K e L H
def oJ(r:Rs d)(k:TT AV d->Hp->R1):R1:=match r with| .bad=>.bad| .ok L H=>k L H
def aHm(r:Rx d)(k:TT AV d->Hp->List Pd->List Wt->R1):R1:=match r with| .bad=>.bad| .ok L H p w=>k L H p w
def nrm(r:R0)(H:Hp):Option (AV×Hp):=match r with| .bad=>none| .val v=>some (v,H)| .new v b=>some (v,aN H b)
def vq(r:R0)(H:Hp)(k:AV->Hp->R1):R1:=match nrm r H with|none=>.bad|some p=>k p.1 p.2
def ve(r:R1)(k:AV->Hp->R1):R1:=match r with| .bad=>.bad| .ok v H=>k v H
def vg0(w:Option Bool)(r:R0)(H:Hp)(k:AV->Hp->R1):R1:=match w with|some true=>vq r H k|some false=>k .undef H|none=>.bad
def aCN(w:Option Bool)(r:R1)(H:Hp)(k:AV->Hp->R1):R1:=match w with|some true=>ve r k|some false=>k .undef H|none=>.bad
def bF(want:Bool)(v:AV):Option Bool:=match v with| .bool b=>some (b==want)| .undef=>some false|_=>none
def cd(x:AV)(a b:R1):R1:=match x with| .bool true=>a| .bool false=>b|_=>.bad
/- steps of a region that draws its order -/
def dq0(lk al:Bool)(i A nm:Nat)(H:Hp)(p:List Pd)(w:List Wt)(f:Hp->R0)(g:Option Bool)(k:AV->Hp->List Pd->List Wt->R1):R1:=
 match g with
 |none=>.bad
 |some false=>k .undef H p w
 |some true=>match f (eU A p H)with
  | .bad=>.bad
  | .val v=>k v H p (bif lk then⟨i,A,f,v⟩::w else w)
  | .new v b=>bif al&&b.wr then k v H (⟨i,nm,b⟩::p) w else .bad
def de0(A:Nat)(H:Hp)(p:List Pd)(w:List Wt)(r:R1)(g:Option Bool)(k:AV->Hp->List Pd->List Wt->R1):R1:=
 match g with
 |none=>.bad
 |some false=>k .undef H p w
 |some true=>match r with
  | .bad=>.bad
  | .ok v H'=>bif qi2 (p8 A p) H' (qB A w)then k v H' (p8 A p) (qB A w)else .bad
def vl(r:R0)(k:AV->R1):R1:=match r with| .bad=>.bad| .val v=>k v| .new _ _=>.bad
def aBp(w:Option Bool)(r:R0)(k:AV->R1):R1:=match w with|some true=>vl r k|some false=>k .undef|none=>.bad
/- constants that cannot be taken apart: so two sides are compared argument by argument -/
def vg:Option Bool->R0->Hp->(AV->Hp->R1)->R1:=Classical.choose (⟨vg0,rfl⟩:∃ f,f=vg0)
theorem z05:vg=vg0:=uq (⟨vg0,rfl⟩:∃ f,f=vg0)
def veg:Option Bool->R1->Hp->(AV->Hp->R1)->R1:=Classical.choose (⟨aCN,rfl⟩:∃ f,f=aCN)
theorem zj2:veg=aCN:=uq (⟨aCN,rfl⟩:∃ f,f=aCN)
def vlg:Option Bool->R0->(AV->R1)->R1:=Classical.choose (⟨aBp,rfl⟩:∃ f,f=aBp)
theorem q87:vlg=aBp:=uq (⟨aBp,rfl⟩:∃ f,f=aBp)
def dq:Bool->Bool->Nat->Nat->Nat->Hp->List Pd->List Wt->(Hp->R0)->Option Bool->(AV->Hp->List Pd->List Wt->R1)->R1:=Classical.choose (⟨dq0,rfl⟩:∃ f,f=dq0)
theorem zum:dq=dq0:=uq (⟨dq0,rfl⟩:∃ f,f=dq0)
def de:Nat->Hp->List Pd->List Wt->R1->Option Bool->(AV->Hp->List Pd->List Wt->R1)->R1:=Classical.choose (⟨de0,rfl⟩:∃ f,f=de0)
theorem zuo:de=de0:=uq (⟨de0,rfl⟩:∃ f,f=de0)
theorem za5(a:TT AV d->AV->TT AV d)(L:TT AV d)(H:Hp)(r:R0)(k:TT AV d->Hp->R1):oJ (doQ a L H r) k=vq r H fun v H=>k (a L v) H:=by cases r<;>rfl
theorem za6(a:TT AV d->AV->TT AV d)(L:TT AV d)(r:R1)(k:TT AV d->Hp->R1):oJ (doE a L r) k=ve r fun v H=>k (a L v) H:=by cases r<;>rfl
structure StC(d:Nat) where f:Ev.Call->TT AV d->Hp->(TT AV d->Hp->R1)->R1
def zke(P:Program)(d n:Nat)(ops:Array Oper)(o:Oper):StC d:=
 match gW P d n o,o.guard,sV d n ops o,dS d n o.dst with
 | .q _ f,none,_,⟨put⟩=>⟨fun _ L H k=>vq (f H.nx L H) H fun v H=>k (put L v) H⟩
 | .e f,none,_,⟨put⟩=>⟨fun O L H k=>ve (f O L H) fun v H=>k (put L v) H⟩
 | .q _ f,some _,⟨w⟩,⟨put⟩=>⟨fun _ L H k=>vg (w L) (f H.nx L H) H fun v H=>k (put L v) H⟩
 | .e f,some _,⟨w⟩,⟨put⟩=>⟨fun O L H k=>veg (w L) (f O L H) H fun v H=>k (put L v) H⟩
theorem zkd(P:Program)(d n:Nat)(ops:Array Oper)(o:Oper)(O:Ev.Call)(L:TT AV d)(H:Hp)(k:TT AV d->Hp->R1):oJ ((yT P d n ops o).f O L H) k=(zke P d n ops o).f O L H k:=by
 unfold yT zke;generalize gW P d n o=x;generalize o.guard=g;generalize sV d n ops o=w;generalize dS d n o.dst=p;obtain⟨w⟩:=w;cases x with
 |q l f=>cases g with
  |none=>exact za5 ..
  |some j=>
   show oJ (ifW (w L) _ _) k=vg (w L) _ H _;rw[z05];cases h:w L with
   |none=>rfl
   |some b=>cases b with
    |true=>exact za5 ..
    |false=>rfl
 |e f=>cases g with
  |none=>exact za6 ..
  |some j=>
   show oJ (ifW (w L) _ _) k=veg (w L) _ H _;rw[zj2];cases h:w L with
   |none=>rfl
   |some b=>cases b with
    |true=>exact za6 ..
    |false=>rfl
def q9i(P:Program)(d n:Nat)(ops:Array Oper)(o:Oper):StC d:=
 match zC o with
 |none=>zke P d n ops o
 |some _=>match oK P d n ops o with|⟨g⟩=>⟨fun O L H k=>oJ (g O L H) k⟩
theorem zki(P:Program)(d n:Nat)(ops:Array Oper)(o:Oper)(O:Ev.Call)(L:TT AV d)(H:Hp)(k:TT AV d->Hp->R1):oJ ((oK P d n ops o).f O L H) k=(q9i P d n ops o).f O L H k:=by
 unfold q9i;cases h:zC o with
 |none=>simp only;rw[<-zkd];unfold oK;rw[h]
 |some c=>rfl
def aEl(P:Program)(d n:Nat)(ops:Array Oper):List Oper->StC d
 | []=>⟨fun _ L H k=>k L H⟩
 |o::r=>match q9i P d n ops o,aEl P d n ops r with|⟨g⟩,⟨h⟩=>⟨fun O L H k=>g O L H fun L H=>h O L H k⟩
theorem zlo(P:Program)(d n:Nat)(ops:Array Oper)(O:Ev.Call):∀(l:List Oper) (L:TT AV d) (H:Hp) (k:TT AV d->Hp->R1), oJ ((pM P d n ops l).f O L H) k=(aEl P d n ops l).f O L H k
 | [],_,_,_=>rfl
 |o::r,L,H,k=>by
  show oJ (zdv ((oK P d n ops o).f O L H) ((pM P d n ops r).f O)) k=(q9i P d n ops o).f O L H fun L H=>(aEl P d n ops r).f O L H k;rw[<-zki];cases (oK P d n ops o).f O L H with
  |bad=>rfl
  |ok L H=>exact zlo P d n ops O r L H k
structure SxC(d:Nat) where f:Ev.Call->Nat->TT AV d->Hp->List Pd->List Wt->(TT AV d->Hp->List Pd->List Wt->R1)->R1
def qss(P:Program)(d n:Nat)(ops:Array Oper)(i A:Nat)(o:Oper):SxC d:=
 match gW P d n o,mQ d n (kR ops o),sV d n ops o,dS d n o.dst with
 | .q lk f,⟨pj⟩,⟨w⟩,⟨put⟩=>⟨fun _ base L H p ws k=>dq lk (qhn o.op&& !lk) i A (base+i) H p ws (f (base+i) (pj L)) (w (pj L)) fun v H p ws=>k (put L v) H p ws⟩
 | .e f,⟨pj⟩,⟨w⟩,⟨put⟩=>⟨fun O _ L H p ws k=>de A H p ws (f O (pj L) (eU A p H)) (w (pj L)) fun v H p ws=>k (put L v) H p ws⟩
theorem zkc(P:Program)(d n:Nat)(ops:Array Oper)(i A:Nat)(o:Oper)(O:Ev.Call)(base:Nat)(L:TT AV d)(H:Hp)(p:List Pd)(ws:List Wt)(k:TT AV d->Hp->List Pd->List Wt->R1):aHm ((qy9 P d n ops i A o).f O base L H p ws) k=(qss P d n ops i A o).f O base L H p ws k:=by
 unfold qy9 qss;generalize gW P d n o=x;generalize mQ d n (kR ops o)=j;generalize sV d n ops o=w;generalize dS d n o.dst=pt;obtain⟨w⟩:=w;obtain⟨j⟩:=j;cases x with
 |q lk f=>
  dsimp only;rw[zum];unfold qX dq0;cases w (j L)with
  |none=>rfl
  |some b=>cases b with
   |false=>rfl
   |true=>
    cases f (base+i) (j L) (eU A p H)with
    |bad=>rfl
    |val v=>rfl
    |new v b=>simp only;cases (qhn o.op&& !lk&&b.wr)<;>rfl
 |e f=>
  dsimp only;rw[zuo];unfold eX de0;cases w (j L)with
  |none=>rfl
  |some b=>cases b with
   |false=>rfl
   |true=>
    cases f O (j L) (eU A p H)with
    |bad=>rfl
    |ok v H'=>simp only;cases qi2 (p8 A p) H' (qB A ws)<;>rfl
def qqp(P:Program)(d n:Nat)(ops:Array Oper)(ms:List Nat):List Nat->SxC d
 | []=>⟨fun _ _ L H p w k=>k L H p w⟩
 |i::r=>match ops[i]? with
  |some o=>match qss P d n ops i (ms.getD i 0) o,qqp P d n ops ms r with|⟨g⟩,⟨h⟩=>⟨fun O base L H p w k=>g O base L H p w fun L H p w=>h O base L H p w k⟩
  |none=>⟨fun _ _ _ _ _ _ _=>.bad⟩
theorem zab(P:Program)(d n:Nat)(ops:Array Oper)(ms:List Nat)(O:Ev.Call)(base:Nat):∀(l:List Nat) (L:TT AV d) (H:Hp) (p:List Pd) (w:List Wt) (k:TT AV d->Hp->List Pd->List Wt->R1), aHm ((sG P d n ops ms l).f O base L H p w) k=(qqp P d n ops ms l).f O base L H p w k
 | [],_,_,_,_,_=>rfl
 |i::r,L,H,p,w,k=>by
  unfold sG qqp;cases ops[i]? with
  |none=>rfl
  |some o=>
   show aHm (z4b ((qy9 P d n ops i (ms.getD i 0) o).f O base L H p w) ((sG P d n ops ms r).f O base)) k=(qss P d n ops i (ms.getD i 0) o).f O base L H p w fun L H p w=>(qqp P d n ops ms r).f O base L H p w k;rw[<-zkc];cases (qy9 P d n ops i (ms.getD i 0) o).f O base L H p w with
   |bad=>rfl
   |ok L H p w=>exact zab P d n ops ms O base r L H p w k
def z3k(P:Program)(d n:Nat)(ops:Array Oper):StC d:=
 match q6s P d n ops with
 |none=>⟨fun _ _ _ _=>.bad⟩
 |some pl=>match qqp P d n ops pl.ms pl.ord with
  |⟨g⟩=>⟨fun O L H k=>g O H.nx L ⟨H.t,H.nx+pl.up⟩ [] [] fun L H p _=>k L (mU p H)⟩
theorem zul(P:Program)(d n:Nat)(ops:Array Oper)(O:Ev.Call)(L:TT AV d)(H:Hp)(k:TT AV d->Hp->R1):oJ ((qlw P d n ops).f O L H) k=(z3k P d n ops).f O L H k:=by
 unfold qlw z3k;cases q6s P d n ops with
 |none=>rfl
 |some pl=>show oJ (match(sG P d n ops pl.ms pl.ord).f O H.nx L ⟨H.t,H.nx+pl.up⟩ [] []with| .bad=>.bad| .ok L' H' pend _=>.ok L' (mU pend H')) k=(qqp P d n ops pl.ms pl.ord).f O H.nx L ⟨H.t,H.nx+pl.up⟩ [] [] fun L H p _=>k L (mU p H);rw[<-zab];cases (sG P d n ops pl.ms pl.ord).f O H.nx L ⟨H.t,H.nx+pl.up⟩ [] []<;>rfl
/- regions that draw their order, without effects and new blocks -/
def q95(P:Program)(d n:Nat)(ops:Array Oper)(i:Nat):Bool:=match ops[i]? with|some o=> !isE (gW P d n o)&& !qhn o.op|none=>false
def z2j(P:Program)(d n:Nat)(ops:Array Oper)(i:Nat)(o:Oper):StC d:=
 match gW P d n o,mQ d n (kR ops o),o.guard,sV d n ops o,dS d n o.dst with
 | .q _ f,⟨pj⟩,none,_,⟨put⟩=>⟨fun _ L H k=>vl (f (H.nx+i) (pj L) H) fun v=>k (put L v) H⟩
 | .q _ f,⟨pj⟩,some _,⟨w⟩,⟨put⟩=>⟨fun _ L H k=>vlg (w (pj L)) (f (H.nx+i) (pj L) H) fun v=>k (put L v) H⟩
 | .e _,_,_,_,_=>⟨fun _ _ _ _=>.bad⟩
def q6u(P:Program)(d n:Nat)(ops:Array Oper):List Nat->StC d
 | []=>⟨fun _ L H k=>k L H⟩
 |i::r=>match ops[i]? with
  |some o=>match z2j P d n ops i o,q6u P d n ops r with|⟨g⟩,⟨h⟩=>⟨fun O L H k=>g O L H fun L H=>h O L H k⟩
  |none=>⟨fun _ _ _ _=>.bad⟩
theorem zx2(c:Bool)(i A nm:Nat)(H:Hp)(w:List Wt)(f:Hp->R0)(g:Option Bool)(k:AV->Hp->List Pd->List Wt->R1)(a:AV->R1)(h:∀ v w,k v H [] w=a v):dq c false i A nm H [] w f g k=vlg g (f H) a:=by
 rw[zum,q87];unfold dq0 aBp;cases g with
 |none=>rfl
 |some b=>cases b with
  |false=>exact h _ _
  |true=>
   show(match f H with| .bad=>R1.bad| .val v=>_| .new v b=>_)=vl (f H) a;cases f H with
   |bad=>rfl
   |val v=>exact h _ _
   |new v b=>rfl
theorem qxa(P:Program)(d n:Nat)(ops:Array Oper)(ms:List Nat)(O:Ev.Call)(H:Hp):∀(l:List Nat),l.all (q95 P d n ops)=true->∀(L:TT AV d) (w:List Wt) (k:TT AV d->Hp->R1), (qqp P d n ops ms l).f O H.nx L H [] w (fun L H p _=>k L (mU p H))=(q6u P d n ops l).f O L H k
 | [],_,_,_,_=>rfl
 |i::r,hl,L,w,k=>by
  rw[lEG,qc]at hl;have a:=hl.1;unfold q95 at a;unfold qqp q6u;cases u:ops[i]? with
  |none=>simp[u]at a
  |some o=>
   rw[u]at a;simp only[qc,yg]at a;show(qss P d n ops i (ms.getD i 0) o).f O H.nx L H [] w (fun L x p w=>(qqp P d n ops ms r).f O H.nx L x p w (fun L H p _=>k L (mU p H)))=(z2j P d n ops i o).f O L H fun L H=>(q6u P d n ops r).f O L H k;unfold qss z2j;have c:=a.2;have s:=a.1;have t:o.guard=none->(sV d n ops o).f=fun _=>some true:=fun g=>by unfold sV;rw[g]
   generalize sV d n ops o=h at t;generalize gW P d n o=x2 at s;generalize mQ d n (kR ops o)=m;generalize dS d n o.dst=b;obtain⟨h⟩:=h;obtain⟨m⟩:=m;obtain⟨b⟩:=b;cases x2 with
   |e f=>cases s
   |q lk f=>
    cases g:o.guard with
    |none=>have e:=t g;subst e;rw[c];refine(zx2 lk i _ _ H w _ (some true) _ (fun v=>(q6u P d n ops r).f O (b L v) H k) fun v w=>?_).trans (by rw[q87];rfl);exact qxa P d n ops ms O H r hl.2 (b L v) w k
    |some j=>rw[c];exact zx2 lk i _ _ H w _ (h (m L)) _ (fun v=>(q6u P d n ops r).f O (b L v) H k) fun v w=>qxa P d n ops ms O H r hl.2 (b L v) w k
def z3j(P:Program)(d n:Nat)(ops:Array Oper):StC d:=
 match q6s P d n ops with
 |none=>⟨fun _ _ _ _=>.bad⟩
 |some pl=>match pl.ord.all (q95 P d n ops)&&Nat.beq pl.up 0,q6u P d n ops pl.ord,qqp P d n ops pl.ms pl.ord with
  |true,⟨g⟩,_=>⟨g⟩
  |false,_,⟨g⟩=>⟨fun O L H k=>g O H.nx L ⟨H.t,H.nx+pl.up⟩ [] [] fun L H p _=>k L (mU p H)⟩
theorem zuk(P:Program)(d n:Nat)(ops:Array Oper)(O:Ev.Call)(L:TT AV d)(H:Hp)(k:TT AV d->Hp->R1):oJ ((qlw P d n ops).f O L H) k=(z3j P d n ops).f O L H k:=by
 rw[zul];unfold z3k z3j;cases q6s P d n ops with
 |none=>rfl
 |some pl=>
  dsimp only;cases a:(pl.ord.all (q95 P d n ops)&&Nat.beq pl.up 0)with
  |false=>rfl
  |true=>rw[qc]at a;have b:=qp a.2;rw[b];exact qxa P d n ops pl.ms O H pl.ord a.1 L [] k
def thn(b:TT AV d->Hp->R1)(K:Kt d):Kt d:=fun e L H=>match e with| .normal=>b L H|e=>K e L H
def aAl(id:Nat)(K:Kt d):Kt d:=fun e L H=>match e with| .exit i=>bif Nat.beq i id then K .normal L H else K (.exit i) L H|e=>K e L H
structure DnC(d:Nat) where f:Ev.Call->TT AV d->Hp->Kt d->R1
def nJ(P:Program)(d n:Nat):Code->DnC d
 | .skip| .label _=>⟨fun _ L H K=>K .normal L H⟩
 | .region _ ops false=>match aEl P d n ops ops.toList with|⟨g⟩=>⟨fun O L H K=>g O L H (K .normal)⟩
 | .region _ ops true=>match z3j P d n ops with|⟨g⟩=>⟨fun O L H K=>g O L H (K .normal)⟩
 | .seq a b=>match nJ P d n a,nJ P d n b with|⟨f⟩,⟨g⟩=>⟨fun O L H K=>f O L H (thn (fun L H=>g O L H K) K)⟩
 | .cond x a b=>match aH d n x,nJ P d n a,nJ P d n b with|⟨g⟩,⟨f⟩,⟨h⟩=>⟨fun O L H K=>cd (g L) (f O L H K) (h O L H K)⟩
 | .block id b=>match nJ P d n b with|⟨f⟩=>⟨fun O L H K=>f O L H (aAl id K)⟩
 | .scope b=>nJ P d n b
 | .exit id=>⟨fun _ L H K=>K (.exit id) L H⟩
 | .ret=>⟨fun _ L H K=>K .ret L H⟩
 |c=>match den P d n c with|⟨g⟩=>⟨fun O L H K=>fin (g O L H) K⟩
theorem za4(r:Rs d)(K:Kt d):fin (mI r) K=oJ r (K .normal):=by cases r<;>rfl
theorem q66(r:Rc d)(k:TT AV d->Hp->Rc d)(K:Kt d):fin (qR r k) K=fin r (thn (fun L H=>fin (k L H) K) K):=by
 cases r with
 |bad=>rfl
 |ok e L H=>cases e<;>rfl
theorem q0x(id:Nat)(r:Rc d)(K:Kt d):fin (qts id r) K=fin r (aAl id K):=by
 cases r with
 |bad=>rfl
 |ok e L H=>
  cases e with
  |exit i=>show fin (bif Nat.beq i id then _ else _) K=bif Nat.beq i id then _ else _;cases Nat.beq i id<;>rfl
  |_=>rfl
theorem qgi(P:Program)(d n:Nat)(O:Ev.Call):∀(c:Code) (L:TT AV d) (H:Hp) (K:Kt d),fin ((den P d n c).f O L H) K=(nJ P d n c).f O L H K
 | .skip,_,_,_| .label _,_,_,_| .exit _,_,_,_| .ret,_,_,_| .goto _,_,_,_| .loop _,_,_,_| .rangeFunc ..,_,_,_| .refuse _,_,_,_=>rfl
 | .region _ ops false,L,H,K=>(za4 ..).trans (zlo ..)
 | .region _ ops true,L,H,K=>(za4 ..).trans (zuk ..)
 | .seq a b,L,H,K=>by refine(q66 ((den P d n a).f O L H) ((den P d n b).f O) K).trans ?_;rw[qgi P d n O a];show(nJ P d n a).f O L H (thn (fun L H=>fin ((den P d n b).f O L H) K) K)=(nJ P d n a).f O L H (thn (fun L H=>(nJ P d n b).f O L H K) K);congr 2;funext L H;exact qgi P d n O b L H K
 | .cond x a b,L,H,K=>by
  show fin (condC ((aH d n x).f L) ((den P d n a).f O L H) ((den P d n b).f O L H)) K=cd ((aH d n x).f L) ((nJ P d n a).f O L H K) ((nJ P d n b).f O L H K);rw[<-qgi P d n O a,<-qgi P d n O b];generalize (aH d n x).f L=v;cases v with
  |bool q=>cases q<;>rfl
  |_=>rfl
 | .block id b,L,H,K=>(q0x ..).trans (qgi P d n O b L H (aAl id K))
 | .scope b,L,H,K=>qgi P d n O b L H K
def Lk(P:Program)(d n:Nat)(O:Ev.Call)(c:Code)(K:Kt d)(D:TT AV d->Hp->R1):Prop:=∀ L H,fin ((den P d n c).f O L H) K=D L H
variable {P:Program} {n:Nat} {O:Ev.Call} {K:Kt d}
theorem p0{c:Code}{D:TT AV d->Hp->R1}(h:∀ L H,(nJ P d n c).f O L H K=D L H):Lk P d n O c K D:=fun L H=>(qgi P d n O c L H K).trans (h L H)
theorem qS{a b:Code}{D E:TT AV d->Hp->R1}(c:Lk P d n O b K E)(e:Lk P d n O a (thn E K) D):Lk P d n O (.seq a b) K D:=fun L H=>by refine(q66 ((den P d n a).f O L H) ((den P d n b).f O) K).trans ?_;rw[show(fun L H=>fin ((den P d n b).f O L H) K)=E from funext fun L=>funext fun H=>c L H];exact e L H
theorem r8{id:Nat}{b:Code}{D:TT AV d->Hp->R1}(h:Lk P d n O b (aAl id K) D):Lk P d n O (.block id b) K D:=fun L H=>(q0x ..).trans (h L H)
theorem p6{b:Code}{D:TT AV d->Hp->R1}(h:Lk P d n O b K D):Lk P d n O (.scope b) K D:=h
theorem pA{x:Operand}{a b:Code}{A B:TT AV d->Hp->R1}(c:Lk P d n O a K A)(e:Lk P d n O b K B):Lk P d n O (.cond x a b) K (fun L H=>cd ((aH d n x).f L) (A L H) (B L H)):=fun L H=>by
 show fin (condC ((aH d n x).f L) ((den P d n a).f O L H) ((den P d n b).f O L H)) K=cd ((aH d n x).f L) (A L H) (B L H);rw[<-c L H,<-e L H];generalize (aH d n x).f L=v;cases v with
 |bool q=>cases q<;>rfl
 |_=>rfl
def dD:Nat:=Classical.choose (⟨bL,rfl⟩:∃ n,n=bL)
theorem bW:dD=bL:=uq (⟨bL,rfl⟩:∃ n,n=bL)
theorem pS{b:Code}{D:Nat->TT AV d->Hp->R1}(c:∀ k,Lk P d n O b (thn (D k) K) (D (k+1)))(e:∀ L H,D 0 L H=.bad:=by intros;kernel_rfl):Lk P d n O (.loop b) K (D dD):=by
 have a:∀ k L H,fin (qqt ((den P d n b).f O) k L H) K=D k L H:=by
  intro k
  induction k with
  |zero=>intro L H;exact(e L H).symm
  |succ k ih=>intro L H;show fin (qR ((den P d n b).f O L H) (qqt ((den P d n b).f O) k)) K=_;rw[q66,show(fun L H=>fin (qqt ((den P d n b).f O) k L H) K)=D k from funext fun L=>funext fun H=>ih L H];exact c k L H
 rw[bW];exact fun L H=>a bL L H
theorem pT{c:Code}{D E:TT AV d->Hp->R1}(h:Lk P d n O c K D)(e:∀ L H,D L H=E L H:=by intros;kernel_rfl):Lk P d n O c K E:=fun L H=>(h L H).trans (e L H)
def aHU(n:Nat)(O:Ev.Call)(res:TT AV d->Hp->Option AV):Kt d:=fun e L H=>match e with| .normal=>iD n O res L H| .ret=>iD n O res L H|_=>.bad
theorem z1l(n:Nat)(O:Ev.Call)(a:TT AV d->Hp->Option AV)(r:Rc d):aC6 n O a r=fin r (aHU n O a):=by
 cases r with
 |bad=>rfl
 |ok e L H=>cases e<;>rfl
def codeOf(f:Func):Code:=match f.body with|some c=>c|none=>.skip
theorem zt4{f:FuncId}{F:Func}(hf:P.funcs[f]? =some F)(hn:(F.name == "runtime.NumGoroutine")=false) (hb:F.body.isSome=true) {args:List AV} (ha:(Nat.ble args.length F.ntmps&&Nat.ble (F.ntmps+1) 262144)=true)
  {D:TT AV (iF (F.ntmps+1))->Hp->R1} (h:Lk P (iF (F.ntmps+1)) F.ntmps O (codeOf F) (aHU F.ntmps O (qcj P (iF (F.ntmps+1)) F.ntmps F.results.toList).f) D) (H:Hp) :
  (aP P f).f O args H=D (nR args 0 (same .undef _)) H:=by
 unfold aP;rw[hf];simp only[hn,cu,lA9];unfold codeOf at h;cases hc:F.body with
 |none=>rw[hc]at hb;cases hb
 |some c=>rw[hc]at h;show(bif Nat.ble args.length F.ntmps&&Nat.ble (F.ntmps+1) 262144 then aC6 F.ntmps O _ _ else .bad)=_;rw[ha,<-h _ H];exact z1l ..
end Go.Di
namespace Go.Di
open Go.Ev
variable {d n:Nat} {P:Program} {O:Ev.Call}
def qkz:Code->Bool
 | .region _ ops _=> !(ops.toList.any qF)
 | .seq a b=>qkz a&&qkz b
 | .cond _ a b=>qkz a&&qkz b
 | .block _ b=>qkz b
 | .loop b=>qkz b
 | .scope b=>qkz b
 | .rangeFunc .. =>true
 |_=>true
theorem znn{o:Oper}(h:qF o=false):zC o=none:=by
 unfold qF at h;unfold zC;split
 ·simp_all
 ·rfl
theorem qz9(f:n<8 ^ d){ops:Array Oper}:∀(l:List Oper),l.any qF=false->∀{L:TT AV d} {H:Hp} {a:TT AV d} {c:Hp},(pM P d n ops l).f O L H=.ok a c->(dJ d n).f a=(dJ d n).f L
 | [],_,L,H,a,c,h=>by cases h;rfl
 |o::r,hl,L,H,a,c,h=>by
  rw[lA6,lAN]at hl;have e:zdv ((oK P d n ops o).f O L H) ((pM P d n ops r).f O)=.ok a c:=h;cases b:(oK P d n ops o).f O L H with
  |bad=>rw[b]at e;cases e
  |ok L1 H1=>rw[b]at e;unfold oK at b;rw[znn hl.1]at b;exact(qz9 f r hl.2 e).trans (qst f b)
theorem qen(q:n<8 ^ d):∀(c:Code),qkz c=true->∀{L:TT AV d} {H:Hp} {e:Ex} {l:TT AV d} {o:Hp},(den P d n c).f O L H=.ok e l o->(dJ d n).f l=(dJ d n).f L
 | .skip,_,_,_,_,_,_,h| .label _,_,_,_,_,_,_,h| .exit _,_,_,_,_,_,_,h| .ret,_,_,_,_,_,_,h=>by cases h;rfl
 | .goto _,_,_,_,_,_,_,h| .refuse _,_,_,_,_,_,_,h=>by cases h
 | .rangeFunc f ps sa bd,_,L,H,e,l,o,h=>by
  rw[den]at h;split at h
  ·cases h
  ·rename_i g _ _;have h:endLoop H.nx (qjo O (g L) [.yield H.nx] (aN H (.loop true none d n L ps.toList sa bd))) L=.ok e l o:=h;unfold endLoop at h;split at h
   ·cases h
   ·split at h<;>first|(cases h;rfl)|cases h
 | .region _ ops false,hc,L,H,e,l,o,h=>by
  have j:mI ((pM P d n ops ops.toList).f O L H)=.ok e l o:=h;cases m:(pM P d n ops ops.toList).f O L H with
  |bad=>rw[m]at j;cases j
  |ok L1 H1=>rw[m]at j;cases j;exact qz9 q _ (by simpa [qkz] using hc) m
 | .region _ ops true,_,L,H,e,l,o,h=>by
  have j:mI ((qlw P d n ops).f O L H)=.ok e l o:=h;cases m:(qlw P d n ops).f O L H with
  |bad=>rw[m]at j;cases j
  |ok L1 H1=>rw[m]at j;cases j;exact qto q m
 | .seq a b,hc,L,H,e,l,o,h=>by
  simp only[qkz,qc]at hc;have j:qR ((den P d n a).f O L H) ((den P d n b).f O)=.ok e l o:=h;cases m:(den P d n a).f O L H with
  |bad=>rw[m]at j;cases j
  |ok e1 L1 H1=>
   rw[m]at j;have p:=qen q a hc.1 m;cases e1 with
   |normal=>exact(qen q b hc.2 j).trans p
   |exit i=>cases j;exact p
   |goto i=>cases j;exact p
   |ret=>cases j;exact p
 | .cond x a b,hc,L,H,e,l,o,h=>by
  simp only[qkz,qc]at hc;have j:condC ((aH d n x).f L) ((den P d n a).f O L H) ((den P d n b).f O L H)=.ok e l o:=h;unfold condC at j;split at j
  ·exact qen q a hc.1 j
  ·exact qen q b hc.2 j
  ·cases j
 | .block id b,hc,L,H,e,l,o,h=>by
  have j:qts id ((den P d n b).f O L H)=.ok e l o:=h;cases m:(den P d n b).f O L H with
  |bad=>rw[m]at j;cases j
  |ok e1 L1 H1=>
   rw[m]at j;have p:=qen q b hc m;cases e1 with
   |exit i=>
    have s:(bif Nat.beq i id then Rc.ok .normal L1 H1 else Rc.ok (.exit i) L1 H1)=.ok e l o:=j;cases t:Nat.beq i id with
    |true=>rw[t]at s;cases s;exact p
    |false=>rw[t]at s;cases s;exact p
   |normal=>cases j;exact p
   |goto i=>cases j;exact p
   |ret=>cases j;exact p
 | .loop b,hc,L,H,e,l,o,h=>by
  have r:∀(k:Nat) {L:TT AV d} {H:Hp},qqt ((den P d n b).f O) k L H=.ok e l o->(dJ d n).f l=(dJ d n).f L:=by
   intro k
   induction k with
   |zero=>intro L H h;cases h
   |succ k ih=>
    intro L H h;have j:qR ((den P d n b).f O L H) (qqt ((den P d n b).f O) k)=.ok e l o:=h;cases m:(den P d n b).f O L H with
    |bad=>rw[m]at j;cases j
    |ok e1 L1 H1=>
     rw[m]at j;have p:=qen q b hc m;cases e1 with
     |normal=>exact(ih j).trans p
     |exit i=>cases j;exact p
     |goto i=>cases j;exact p
     |ret=>cases j;exact p
  exact r bL h
 | .scope b,hc,L,H,e,l,o,h=>qen q b hc h
def aEz(res:TT AV d->Hp->Option AV):Kt d:=fun e L H=>match e with| .normal=>fM (res L H) H| .ret=>fM (res L H) H|_=>.bad
theorem p7{c:Code}{K:Kt d}:Lk P d n O c K (fun L H=>(nJ P d n c).f O L H K):=fun L H=>qgi P d n O c L H K
theorem rE{f:FuncId}{F:Func}(hf:P.funcs[f]? =some F)(hn:(F.name == "runtime.NumGoroutine")=false) (hb:F.body.isSome=true) (hd:qkz (codeOf F)=true) {args:List AV} (ha:(Nat.ble args.length F.ntmps&&Nat.ble (F.ntmps+1) 262144)=true)
  {D:TT AV (iF (F.ntmps+1))->Hp->R1} (h:Lk P (iF (F.ntmps+1)) F.ntmps O (codeOf F) (aEz (qcj P (iF (F.ntmps+1)) F.ntmps F.results.toList).f) D) (H:Hp) :
  (aP P f).f O args H=D (nR args 0 (same .undef _)) H:=by
 refine(zt4 hf hn hb ha (D:=fun L H=>fin ((den P (iF (F.ntmps+1)) F.ntmps (codeOf F)).f O L H) (aHU F.ntmps O (qcj P (iF (F.ntmps+1)) F.ntmps F.results.toList).f)) (fun _ _=>rfl) H).trans ?_;rw[<-h];cases h1:(den P (iF (F.ntmps+1)) F.ntmps (codeOf F)).f O (nR args 0 (same .undef _)) H with
 |bad=>rfl
 |ok e L' H'=>
  have hs:=qen (lq (dC _) (qb3 _)) (codeOf F) hd h1;simp only[qc,Nat.ble_eq]at ha;have h0:=qkp ha.1 ha.2;have hout:iD F.ntmps O (qcj P (iF (F.ntmps+1)) F.ntmps F.results.toList).f L' H'=fM ((qcj P (iF (F.ntmps+1)) F.ntmps F.results.toList).f L' H') H':=by unfold iD;rw[hs,h0];rfl
  cases e with
  |normal=>exact hout
  |ret=>exact hout
  |exit i=>rfl
  |goto i=>rfl
end Go.Di
end
noncomputable section
namespace Go.Di
open Go.Ev
def dz(up:Nat)(H:Hp)(k:Nat->Hp->R1):R1:=k H.nx ⟨H.t,H.nx+up⟩
def dz2(p:List Pd)(H:Hp)(k:Hp->R1):R1:=k (mU p H)
def rV(r:R0):Option AV:=match r with| .val v=>some v|_=>none
def kP(a:Option AV)(b:Option (List AV)):Option (List AV):=match a,b with|some v,some l=>some (v::l)|_,_=>none
def kW(a:Option (List AV)):Option AV:=match a with|some l=>some (.aX l)|none=>none
def p1:P1:=⟨fun cs off=>cs[off]?⟩
def aW(x:AV):R0:=match x with| .ptr b o=>.val (.ptr b o)| .fn a b c=>.val (.fn a b c)| .yield l=>.val (.yield l)|_=>.bad
def bH(i:Nat)(x:AV):R0:=match x with| .aX l=>(match l[i]? with|some v=>.val v|none=>.bad)|_=>.bad
end Go.Di
end
noncomputable section
namespace Go.Ev
open Go.RowKit Go.Sort
variable {P:Program} {w:World} {ι:Im} {H:Hp}
def qpt:List AV->Option (List Int)
 | []=>some []
 | .int .i64 z::l=>match qpt l with|some r=>some (z::r)|none=>none
 |_::_=>none
def qi7(zs:List Int):List Int:=zs.mergeSort fun x y=>decide (x<=y)
def qzd(H:Hp)(b o n:Nat):Option R1:=
 match jG (H.get b) o n with
 |some l=>match qpt l with
  |some zs=>match storeAt H b o ((qi7 zs).map fun z=>.int .i64 z) (.aX [])with
   | .ok v H'=>bif Nat.blt n 4611686018427387904 then some (.ok v H')else none
   | .bad=>none
  |none=>none
 |none=>none
def qwu(f:FuncId)(e:Ext):Ext:=fun g args H=>
 bif Nat.beq g f then(match args with
 | [.sl b o n _ _]=>qzd H b o n
 | [.aA]=>some (.ok (.aX []) H)
 |_=>none)else e g args H
theorem qtf:∀{l:List AV} {zs:List Int},qpt l=some zs->l=zs.map fun z=>.int .i64 z
 | [],zs,h=>by cases h;rfl
 | .int .i64 z::l,zs,h=>by
  unfold qpt at h;split at h
  ·rename_i r a;cases h;rw[qtf a];rfl
  ·cases h
 | .int .i8 _::_,_,h| .int .i16 _::_,_,h| .int .i32 _::_,_,h| .int .u8 _::_,_,h| .int .u16 _::_,_,h| .int .u32 _::_,_,h| .int .u64 _::_,_,h=>by cases h
 | .undef::_,_,h| .lit _::_,_,h| .bool _::_,_,h| .str _ _::_,_,h| .ptr _ _::_,_,h| .cK::_,_,h| .sl _ _ _ _ _::_,_,h| .aA::_,_,h| .sle::_,_,h| .map _::_,_,h| .dR::_,_,h| .fn _ _ _::_,_,h| .yield _::_,_,h| .iR::_,_,h| .iface _ _::_,_,h| .nO::_,_,h| .agg _::_,_,h| .aX _::_,_,h=>by cases h
def oM(P:Program)(f:FuncId):Prop:=∀(blk off cap:Nat) (zs:List Int) (w:World),Holds (Value.int .i64) w blk off zs.toArray->blk<w.heap.size->zs.length<4611686018427387904 ->
 Calls P f #[.slice (some ⟨blk,off,none⟩) zs.length cap] w fun e w'=>e=.returned (.tuple #[])/\∃ n os,w'=Go.Sort.grow (putRow (Value.int .i64) (Sort.ahead w n) blk off (qi7 zs).toArray) os
theorem qou(zs:List Int):(qi7 zs).length=zs.length:=List.length_mergeSort _
theorem q6k{α:Type}[Inhabited α](enc:α->Value){b a e:Nat}{c:TT AV a}{f o:Nat}{loc:Loc}(q:HR ι H w)(x:H.get b=.cells a e c false f)(p:ι b=some loc){r d:Array α}(s:Holds enc w loc.blk (loc.base+o) r)(t:d.size=r.size){l:List AV}(B:l.length=d.size)(C:o+d.size<=e)(g:∀ j,j<d.size->aL ι (l.getD j .undef) (enc d[j]!)/\(enc d[j]!).oneCell=true)(k:Nat)(u:Array Obj):HR ι (H.put b (.cells a e (nR l o c) false f)) (Go.Sort.grow (putRow enc (Sort.ahead w k) loc.blk (loc.base+o) d) u)/\Fr ι ι H (H.put b (.cells a e (nR l o c) false f)) w (Go.Sort.grow (putRow enc (Sort.ahead w k) loc.blk (loc.base+o) d) u):=by
 have h:=q.lt p;have y:=q.blk b h;rw[x]at y;obtain⟨W,z,A,K,L⟩:=y;rw[p]at z;cases z;have i:HR ι (H.put b (.cells a e (nR l o c) false f)) (putRow enc (Sort.ahead w k) loc.blk (loc.base+o) d)/\Fr ι ι H (H.put b (.cells a e (nR l o c) false f)) w (putRow enc (Sort.ahead w k) loc.blk (loc.base+o) d):=by
  refine q.put h (by rw[x];rfl) p _ rfl rfl rfl (by rw[size_putRow];rfl) (fun D E=>?_) ?_
  ·show(w.heap.modify loc.blk _)[D]? =_;rw[lE6,lu (by omega)]
  ·refine⟨loc,p,A,fun j v=>?_,fun _ j v=>?_⟩
   ·have G:=A.1;rw[qh2 _ _ _ _ (by omega) (by omega),B];obtain⟨V,M,N,O,X⟩:=K j v;by_cases n:o<=j/\j<o+d.size
    ·rw[kz n];obtain⟨P,Q⟩:=g (j-o) (by omega);refine⟨enc d[j-o]!,?_,P,Q,fun _=>?_⟩
     ·have I:=cell?_putRow enc (Sort.ahead w k) loc.blk (loc.base+o) r d s t (j-o) (by omega);rwa [show loc.base+o+(j-o)=loc.base+j by omega]at I
     ·simp_all
    ·rw[lu n];refine⟨V,?_,N,O,fun _=>?_⟩
     ·rw[cell?_putRow_other _ _ _ _ _ _ (.inr (by simp only;omega))];exact M
     ·simp_all
   ·have J:=L rfl j v;rw[frozen?_putRow,cell?_putRow_other _ _ _ _ _ _ (.inr (by simp only;omega))];exact J
 obtain⟨R,S⟩:=i;have m:Below (putRow enc (Sort.ahead w k) loc.blk (loc.base+o) d).heap.size (putRow enc (Sort.ahead w k) loc.blk (loc.base+o) d) (Go.Sort.grow (putRow enc (Sort.ahead w k) loc.blk (loc.base+o) d) u):=⟨rfl,rfl,rfl,by rw[Go.Sort.size_grow];omega,fun c F=>Go.Sort.heap_grow_old _ _ F⟩;obtain⟨T,U⟩:=R.of_below m;exact⟨T,S.trans U⟩
theorem qgw{b:bO}{o n:Nat}{l:List AV}(h:jG b o n=some l):∃ e d c f g,b=.cells e d c f g/\o+n<=d/\l.length=n/\∀ j,j<n->l[j]? =some ((dJ e (o+j)).f c):=by
 cases b with
 |cells e d c f g=>
  have h:(bif Nat.ble (o+n) d then some (rdN c n o)else none)=some l:=h;cases a:Nat.ble (o+n) d with
  |false=>rw[a]at h;cases h
  |true=>rw[a]at h;simp only[uC,qh]at h;subst h;exact⟨e,d,c,f,g,rfl,nP a,qgv c n o,zk4 c n o⟩
 |_=>cases h
theorem qh6{b o:Nat}{l:List AV}{v g:AV}{i:Hp}{e d j:Nat}{c:TT AV e}{f:Bool}(k:H.get b=.cells e d c f j)(h:storeAt H b o l v=.ok g i):f=false/\g=v/\i=H.put b (.cells e d (nR l o c) false j)/\o+l.length<=d:=by
 unfold storeAt uK at h;rw[k]at h;cases f with
 |true=>cases h
 |false=>
  dsimp only at h;cases a:Nat.ble (o+l.length) d with
  |false=>rw[a]at h;cases h
  |true=>rw[a]at h;cases h;exact⟨rfl,rfl,rfl,nP a⟩
theorem zsn{f:FuncId}(N:oM P f){b o n m:Nat}{x:Bool}{v:AV}{E:Hp}(h:qzd H b o n=some (.ok v E)){F:List Value}(s:HR ι H w)(O:aK ι [.sl b o n m x] F):Calls P f F.toArray w (Post ι H w v E):=by
 obtain⟨V,r,rfl,⟨R,loc,t,rfl⟩,rfl⟩:=O;unfold qzd at h;split at h
 ·rename_i l S;split at h
  ·rename_i zs T;have y:=qtf T;split at h
   ·rename_i v' H2 C;cases i:Nat.blt n 4611686018427387904 with
    |false=>rw[i]at h;cases h
    |true=>
     rw[i]at h;cases h;have i:=nP i;obtain⟨U,nn,c,ro,zz,u,W,D,I⟩:=qgw S;obtain⟨rfl,rfl,rfl,_⟩:=qh6 u C;have p:=s.lt t;have G:=s.blk b p;rw[u]at G;obtain⟨l',J,b2,X,b4⟩:=G;rw[t]at J;cases J;have A:zs.length=n:=by rw[<-D,y,pz]
     subst A;have g:∀ j,j<zs.length->(dJ U (o+j)).f c=.int .i64 zs[j]! :=fun j a=>by simp_all
     have q:Holds (Value.int .i64) w loc.blk (loc.base+o) zs.toArray:=fun j a=>by
      have a:j<zs.length:=by simpa using a
      obtain⟨V,K,L,c3,M⟩:=X (o+j) (by omega);rw[g j a]at L;subst L;rw[<-ui]at K M;refine⟨?_,M rfl⟩;rw[K];simp
     have B:loc.blk<w.heap.size:=s.low b loc p (by rw[u];rfl) t;refine(N loc.blk (loc.base+o) (if x then m else m+loc.ext) zs w q B i).mono fun e w' Q=>?_;obtain⟨rfl,k,Y,rfl⟩:=Q;obtain⟨Z,g2⟩:=q6k (Value.int .i64) s u t q (d:=(qi7 zs).toArray) (l:=(qi7 zs).map fun z=>.int .i64 z) (by simp[qou]) (by simp) (by simp[qou];omega) (fun j a=>by
      have a:j<(qi7 zs).length:=by simpa using a
      refine⟨?_,rfl⟩;rw[kw,xw,lL a];simp[a,aL]) k Y
     exact⟨ι,by simp only[aL,aK];exact⟨[],rfl,rfl⟩,Z,g2⟩
   ·cases h
  ·cases h
 ·cases h
def zoo(P:Program)(f:FuncId):Prop:=∀ w,Calls P f #[.slice none 0 0] w fun e w'=>e=.returned (.tuple #[])/\Below w.heap.size w w'
def zmk:R1->Bool
 | .ok (.aX []) _=>true
 | .ok _ _=>false
 | .bad=>false
theorem qqo(d:P.follows .mixedOrders=true){ext:Ext}(g:vQ P ext){k:Nat}{f:FuncId}(h:zmk (eY P ext k (.f f) [.aA] Hp.empty)=true):zoo P f:=by
 intro w;unfold zmk at h;split at h
 ·rename_i m i;have:=((qg5 d g k).fn _ _ _ _ _ i (fun _=>none) w [.slice none 0 0] HR.empty (by simp[aK,aL])).2 0;refine(callsIn_wide.1 this).mono fun e w' a=>?_;cases e with
  |returned V=>obtain⟨n,c,o,j⟩:=a;obtain⟨r,rfl,c⟩:=c;exact⟨by simp[c],j.below _ (lh _) fun b l _ _ h=>by cases h⟩
  |panicked=>exact a.elim
  |outgrown=>exact a.elim
 ·cases h
 ·cases h
theorem qea{f:FuncId}(hb:qfl P f=true)(A:Array Value):(callFunc f A).run P w=.ok (.enter f A) w:=by
 unfold qfl at hb;split at hb
 ·rename_i fn hfn;simp only[qc,yg]at hb;obtain⟨c,hc'⟩:=lAR.1 hb.1
  have hname':¬ fn.name = "runtime.NumGoroutine" :=fun e=>by rw[e]at hb;simp at hb
  simp[callFunc,hfn,hname',hc']
 ·cases hb
theorem zca{e:Ext}(i:vQ P e){f:FuncId}(j:oM P f)(k:zoo P f)(l:qfl P f=true):vQ P (qwu f e):=by
 refine⟨fun g args H r a v n b ι w o c d=>?_⟩;unfold qwu at a;cases h:Nat.beq g f with
 |false=>rw[h]at a;exact i.fn g _ H r a v n b ι w o c d
 |true=>
  rw[h]at a;obtain rfl:=qp h;refine⟨qea l _,fun m=>callsIn_wide.2 ?_⟩;split at a
  ·subst b;exact zsn j a c d
  ·cases a;cases b;obtain⟨V,r,rfl,rfl,rfl⟩:=d;refine(k w).mono fun e w' p=>?_;obtain⟨rfl,q⟩:=p;obtain⟨s,k2⟩:=c.of_below q;exact⟨ι,by simp[aL,aK],s,k2⟩
  ·cases a
structure Eg where
 (f t:Int)
 s:Bool
 deriving Inhabited
def egV(e:Eg):List AV:=[.int .i64 e.f,.int .i64 e.t,.bool e.s]
def egU(e:Eg):List Value:=[.int .i64 e.f,.int .i64 e.t,.bool e.s]
def qp7:List AV->Option (List Eg)
 | []=>some []
 | .int .i64 f:: .int .i64 t:: .bool s::l=>match qp7 l with|some r=>some (⟨f,t,s⟩::r)|none=>none
 |_=>none
def cI(a b:Int):Int:=if a<b then -1 else if b<a then 1 else 0
def or3(a b c:Int):Int:=if a=0 then if b=0 then c else b else a
def yO(s:Bool):Int:=if s then 1 else 0
def jI(x y:Eg):Int:=or3 (cI x.f y.f) (cI x.t y.t) (cI (yO x.s) (yO y.s))
def qlj(l:List Eg):List Eg:=l.mergeSort fun x y=> !decide (jI y x<0)
theorem zcb(l:List Eg):(qlj l).length=l.length:=List.length_mergeSort _
theorem znf:∀{l:List AV} {a:List Eg},qp7 l=some a->l=a.flatMap egV:=by
 intro l
 induction l using qp7.induct with
 |case1=>intro a h;unfold qp7 at h;cases h;rfl
 |case2 f t s l r h1 ih=>intro a h;unfold qp7 at h;rw[h1]at h;cases h;rw[ih h1];rfl
 |case3 f t s l h1 _=>intro a h;unfold qp7 at h;simp_all
 |case4 l h1 h2=>
  intro a h;unfold qp7 at h;split at h
  ·trivial
  ·rename_i f t s l;exact absurd rfl (h2 f t s l)
  ·cases h
theorem znc(b:List Eg):(b.flatMap egV).length=b.length*3:=by
 induction b with
 |nil=>rfl
 |cons a l ih=>rw[xF,ku,ih,gz];show 3+_=_;omega
theorem zne:∀(b:List Eg) (t:Nat) (h:t<b.length*3),(b.flatMap egV)[t]? =(egV (b[t / 3]'(by omega)))[t%3]?
 | [],t,h=>by simp at h
 |a::l,t,h=>by
  rw[xF];by_cases e:t<3
  ·rw[qx (by show t<3;exact e)];have c:t / 3=0:=by omega
   have d:t%3=t:=by omega
   simp only[c,d,List.getElem_cons_zero]
  ·rw[ug (by show 3<=t;omega)];show(l.flatMap egV)[t-3]? =_;rw[gz]at h;rw[zne l (t-3) (by omega)];have c:t / 3=(t-3) / 3+1:=by omega
   have d:t%3=(t-3)%3:=by omega
   simp_all
theorem zxg(e:Eg){i:Nat}(a:i<3){V:Value}:aL ι ((egV e).getD i .undef) V↔V=(egU e)[i]!:=by
 match i,a with
 |0,_|1,_|2,_=>simp only[egV,egU];exact Iff.rfl
theorem z3e(e:Eg){i:Nat}(a:i<3):((egU e)[i]!).oneCell=true:=by
 match i,a with
 |0,_|1,_|2,_=>rfl
def qzg(H:Hp)(b o n:Nat):Option R1:=
 match jG (H.get b) o (n*3)with
 |some l=>match qp7 l with
  |some es=>match storeAt H b o ((qlj es).flatMap egV) (.aX [])with
   | .ok v H'=>bif Nat.blt n 4611686018427387904 then some (.ok v H')else none
   | .bad=>none
  |none=>none
 |none=>none
def mK(P:Program)(f fc:FuncId):Prop:=∀(d:Array Eg) (blk off cap:Nat) (w:World),Go.Sort.HoldsK egU 3 w blk off d->blk<w.heap.size->d.size<4611686018427387904 ->
 Calls P f #[.slice (some ⟨blk,off,none⟩) d.size cap,.func (.func fc) #[] #[]] w fun e w'=>e=.returned (.tuple #[])/\∃ n os,w'=Go.Proofs.sortWorldK egU 3 w blk off n (qlj d.toList).toArray os
def tT(P:Program)(f:FuncId):Prop:=∀ p cap fv w,Calls P f #[.slice p 0 cap,fv] w fun e w'=>e=.returned (.tuple #[])/\w'=w
def qgq(f fc:FuncId)(e:Ext):Ext:=fun g args H=>
 bif Nat.beq g f then(match args with
 | [.sl b o n _ _,.fn c [] []]=>bif Nat.beq c fc then qzg H b o n else none
 | [.aA,.fn c [] []]=>bif Nat.beq c fc then some (.ok (.aX []) H)else none
 |_=>none)else e g args H
theorem zko{f J:FuncId}(U:mK P f J){b o n m:Nat}{x:Bool}{v:AV}{K:Hp}(h:qzg H b o n=some (.ok v K)){L:List Value}(A:HR ι H w)(W:aK ι [.sl b o n m x,.fn J [] []] L):Calls P f L.toArray w (Post ι H w v K):=by
 obtain⟨V,r,rfl,⟨hnm,loc,C,rfl⟩,V2,r2,rfl,⟨_,_,rfl,rfl,rfl⟩,rfl⟩:=W;unfold qzg at h;split at h
 ·rename_i l hl;split at h
  ·rename_i a hz;have q:=znf hz;split at h
   ·rename_i v' H2 G;cases B:Nat.blt n 4611686018427387904 with
    |false=>rw[B]at h;cases h
    |true=>
     rw[B]at h;cases h;have B:=nP B;obtain⟨dd,nn,c,ro,zz,D,hle,I,z⟩:=qgw hl;obtain⟨rfl,rfl,rfl,_⟩:=qh6 D G;have s:=A.lt C;have M:=A.blk b s;rw[D]at M;obtain⟨l',Q,b2,b3,b4⟩:=M;rw[C]at Q;cases Q;have E:a.length=n:=by rw[q,znc]at I;omega
     subst E;have N:∀(d:List Eg) (t:Nat),t<d.length*3->(Go.Sort.flatK egU 3 d.toArray)[t]! =(egU (d[t / 3]!))[t%3]! :=fun d t X=>by rw[Go.Sort.get_flatK egU 3 d.toArray t (by simpa using X)];simp
     have u:Go.Sort.HoldsK egU 3 w loc.blk (loc.base+o) a.toArray:=fun j g=>by
      have g:j<a.length*3:=by simpa using g
      obtain⟨V,R,S,c3,T⟩:=b3 (o+j) (by omega);have Z:=z j g;have O:=zne a j g;rw[<-q,Z]at O;have i:j%3<3:=xy _ (by omega);have h3:(dJ dd (o+j)).f c=(egV (a[j / 3]'(by omega))).getD (j%3) .undef:=by rw[kw,<-O];rfl
      rw[h3,zxg _ i]at S;subst S;rw[<-ui]at R T;refine⟨?_,T rfl⟩;rw[R];show some _=some (Go.Sort.flatK egU 3 a.toArray)[j]!;rw[N a j g,getElem!_pos a (j / 3) (by omega)]
     have F:loc.blk<w.heap.size:=A.low b loc s (by rw[D];rfl) C;have p:=U a.toArray loc.blk (loc.base+o) (if x then m else m+loc.ext) w u F (by rw[List.size_toArray];omega);refine p.mono fun e w' Y=>?_;obtain⟨rfl,k,os,rfl⟩:=Y;have y:=zcb a;obtain⟨g1,g2⟩:=q6k (α:=Value) id A D C u (d:=Go.Sort.flatK egU 3 (qlj a).toArray) (l:=(qlj a).flatMap egV) (by simp[y]) (by rw[znc];simp) (by simp[y];omega) (fun j g=>by
      have g:j<(qlj a).length*3:=by simpa using g
      have i:j%3<3:=xy _ (by omega);rw[N _ j g,getElem!_pos (qlj a) (j / 3) (by omega)];refine⟨?_,z3e _ i⟩;rw[kw,zne _ j g,<-kw];exact(zxg _ i).2 rfl) k os
     exact⟨ι,by simp only[aL,aK];exact⟨[],rfl,rfl⟩,g1,g2⟩
   ·cases h
  ·cases h
 ·cases h
theorem q6d{e:Ext}(q:vQ P e){f h:FuncId}(s:mK P f h)(t:tT P f)(u:qfl P f=true):vQ P (qgq f h e):=by
 refine⟨fun g args H r a v y i ι w z j l=>?_⟩;unfold qgq at a;cases p:Nat.beq g f with
 |false=>rw[p]at a;exact q.fn g _ H r a v y i ι w z j l
 |true=>
  rw[p]at a;obtain rfl:=qp p;refine⟨qea u _,fun k=>callsIn_wide.2 ?_⟩;split at a
  ·rename_i b o n m x c;cases d:Nat.beq c h with
   |false=>rw[d]at a;cases a
   |true=>rw[d]at a;obtain rfl:=qp d;subst i;exact zko s a j l
  ·rename_i c;cases d:Nat.beq c h with
   |false=>rw[d]at a;cases a
   |true=>rw[d]at a;cases a;cases i;obtain⟨V,r,rfl,rfl,V2,B,rfl,⟨_,_,rfl,rfl,rfl⟩,rfl⟩:=l;exact(t none 0 _ w).mono fun e w' A=>by obtain⟨rfl,rfl⟩:=A;exact⟨ι,by simp[aL,aK],j,Fr.refl _ _ _⟩
  ·cases a
def aHS(P:Program)(f:FuncId)(s:Nat×Nat):Prop:=∀(V:Value) (ι:Im) (w:World),aL ι (.str s.1 s.2) V->Calls P f #[V] w fun e w'=>e=.returned (.bool true)/\Below w.heap.size w w'
def qwk(fs:List FuncId)(ns:List (Nat×Nat))(e:Ext):Ext:=fun g args H=>
 bif fs.any (Nat.beq g)then(match args with
 | [.str n a]=>bif ns.any (fun s=>Nat.beq n s.1&&Nat.beq a s.2)then some (.ok (.bool true) H)else none
 |_=>none)else e g args H
theorem zby{e:Ext}(x:vQ P e){i:List FuncId}{m:List (Nat×Nat)}(h:∀ f∈i,∀s∈m,aHS P f s)(y:i.all (qfl P)=true):vQ P (qwk i m e):=by
 refine⟨fun g args H r b v z q ι w A t u=>?_⟩;unfold qwk at b;cases j:i.any (Nat.beq g)with
 |false=>rw[j]at b;exact x.fn g _ H r b v z q ι w A t u
 |true=>
  rw[j]at b;rw[zt]at j;obtain⟨I,d,o⟩:=j;obtain rfl:=qp o;refine⟨qea (yl.1 y _ d) _,fun k=>callsIn_wide.2 ?_⟩;split at b
  ·rename_i n a;cases l:m.any (fun s=>Nat.beq n s.1&&Nat.beq a s.2)with
   |false=>rw[l]at b;cases b
   |true=>rw[l]at b;cases b;cases q;rw[zt]at l;obtain⟨s,p,c⟩:=l;rw[qc]at c;have C:=qp c.1;have D:=qp c.2;subst C D;obtain⟨V,r,rfl,E,rfl⟩:=u;refine(h g d s p V ι w E).mono fun e w' B=>?_;obtain⟨rfl,F⟩:=B;obtain⟨G,k2⟩:=t.of_below F;exact⟨ι,by simp[aL],G,k2⟩
  ·cases b
theorem q52(c:P.follows .mixedOrders=true){ext:Ext}(d:vQ P ext){k:Nat}{f:FuncId}{s:Nat×Nat}(h:qte (eY P ext k (.f f) [.str s.1 s.2] Hp.empty)=true):aHS P f s:=by
 intro V ι w g;unfold qte at h;split at h
 ·rename_i b n i;subst h;have:=((qg5 c d k).fn _ _ _ _ _ i (fun _=>none) w [V] HR.empty (by simp only[aK];exact⟨V,[],rfl,by simpa only[aL] using g,rfl⟩)).2 0;refine(callsIn_wide.1 this).mono fun e w' a=>?_;cases e with
  |returned V=>obtain⟨o,j,p,m⟩:=a;exact⟨by rw[j],m.below _ (lh _) fun b l _ _ h=>by cases h⟩
  |panicked=>exact a.elim
  |outgrown=>exact a.elim
 ·cases h
def headA(H:Hp):AV->Option Int
 | .sl b o n _ _=>bif Nat.blt 0 n then(match bK (H.get b) o with| .val (.int .i64 z)=>some z|_=>none)else none
 |_=>none
def qpw(H:Hp):List AV->Option (List Int)
 | []=>some []
 |v::l=>match headA H v,qpw H l with|some z,some r=>some (z::r)|_,_=>none
def aAv(zs:List Int)(i j:Fin zs.length):Bool:=decide (zs[i]-zs[j]<0)
def cB(zs:List Int)(h:0<zs.length):Array (Fin zs.length):=
 letI:Inhabited (Fin zs.length):=⟨⟨0,h⟩⟩
 pdq (aAv zs) (Array.finRange zs.length) 0 (Array.finRange zs.length).size (Go.Lib.bitLen (Array.finRange zs.length).size) true true
structure aG9(zs:List Int):Prop where
 pos:0<zs.length
 len:zs.length<4611686018427387904
 rng:∀ z∈zs,0<=z/\z<4611686018427387904
open Classical in
def qow(H:Hp)(b o n:Nat):Option R1:=
 match jG (H.get b) o n with
 |some l=>match qpw (H.put b .dead) l with
  |some zs=>if h:aG9 zs then(match storeAt H b o ((cB zs h.pos).toList.map fun i:Fin zs.length=>l.getD i.1 .undef) (.aX [])with
   | .ok v H'=>bif Nat.beq (cB zs h.pos).size zs.length then some (.ok v H')else none
   | .bad=>none)else none
  |none=>none
 |none=>none
def qmt(f fc:FuncId)(e:Ext):Ext:=fun g args H=>
 bif Nat.beq g f then(match args with
 | [.sl b o n _ _,.fn c [] []]=>bif Nat.beq c fc then(bif Nat.beq n 0 then some (.ok (.aX []) H)else qow H b o n)else none
 | [.aA,.fn c [] []]=>bif Nat.beq c fc then some (.ok (.aX []) H)else none
 |_=>none)else e g args H
def oF(P:Program)(f:FuncId):Prop:=∀ p cap fv w,Calls P f #[.slice p 0 cap,fv] w fun e w'=>e=.returned (.tuple #[])/\w'=w
theorem qov{f:FuncId}(b:oF P f){p:Option Addr}{a:Nat}{fv:Value}(c:HR ι H w):Calls P f #[.slice p 0 a,fv] w (Post ι H w (.aX []) H):=
 (b p a fv w).mono fun e w' d=>by obtain⟨rfl,rfl⟩:=d;exact⟨ι,by simp[aL,aK],c,Fr.refl _ _ _⟩
def mY(P:Program)(f fc:FuncId):Prop:=∀(zs:List Int) (h:aG9 zs) (enc:Fin zs.length->Value) (blk off cap:Nat) (w:World),
 letI:Inhabited (Fin zs.length):=⟨⟨0,h.pos⟩⟩
 (∀i:Fin zs.length,∃ba oa na ca,enc i=.slice (some ⟨ba,oa,none⟩) na ca/\0<na/\ba≠blk/\ba<w.heap.size/\w.cell? ⟨ba,oa,none⟩=some (.int .i64 zs[i])) ->
 Holds enc w blk off (Array.finRange zs.length)->blk<w.heap.size ->
 Calls P f #[.slice (some ⟨blk,off,none⟩) zs.length cap,.func (.func fc) #[] #[]] w fun e w'=>e=.returned (.tuple #[])/\∃ n os,w'=Go.Sort.grow (putRow enc (Sort.ahead w n) blk off (cB zs h.pos)) os
theorem qtg{H:Hp}:∀{l:List AV} {zs:List Int},qpw H l=some zs->l.length=zs.length/\∀ i (h:i<l.length) (a:i<zs.length),headA H l[i]=some zs[i]
 | [],zs,h=>by cases h;exact⟨rfl,fun i h=>absurd h (ak _)⟩
 |v::l,zs,h=>by
  unfold qpw at h;split at h
  ·rename_i z r b c;cases h;obtain⟨d,e⟩:=qtg c;refine⟨by simp[d],fun i h a=>?_⟩;cases i with
   |zero=>exact b
   |succ i=>exact e i (by simpa using h) (by simpa using a)
  ·cases h
theorem zmp{H:Hp}{v:AV}{z:Int}(h:headA H v=some z):∃ b o n m x,v=.sl b o n m x/\0<n/\bK (H.get b) o=.val (.int .i64 z):=by
 unfold headA at h;split at h
 ·rename_i b o n m x;cases a:Nat.blt 0 n with
  |false=>rw[a]at h;cases h
  |true=>
   rw[a]at h;simp only[uC]at h;split at h
   ·rename_i z' c;cases h;exact⟨_,_,_,_,_,rfl,nP a,c⟩
   ·cases h
 ·cases h
theorem zkm{f W:FuncId}(hf:mY P f W){b o n m:Nat}{x:Bool}{v:AV}{X:Hp}(h:qow H b o n=some (.ok v X)){Y:List Value}(u:HR ι H w)(Z:aK ι [.sl b o n m x,.fn W [] []] Y):Calls P f Y.toArray w (Post ι H w v X):=by
 simp only[aK,aL]at Z;obtain⟨V,r,rfl,⟨hnm,loc,E,rfl⟩,V2,r2,rfl,⟨_,_,rfl,rfl,rfl⟩,rfl⟩:=Z;unfold qow at h;split at h
 ·rename_i l hl;split at h
  ·rename_i zs hz;split at h
   ·rename_i g;split at h
    ·rename_i v' H2 R;cases p:Nat.beq (cB zs g.pos).size zs.length with
     |false=>rw[p]at h;cases h
     |true=>
      rw[p]at h;cases h;have p:=qp p;obtain⟨dd,nn,c,ro,zz,F,hle,hll,G⟩:=qgw hl;obtain⟨rfl,rfl,rfl,_⟩:=qh6 F R;obtain⟨hlz,hh⟩:=qtg hz
      letI:Inhabited (Fin zs.length):=⟨⟨0,g.pos⟩⟩
      have A:=u.lt E;have hB:=u.blk b A;rw[F]at hB;obtain⟨l',b1,b2,b3,b4⟩:=hB;rw[E]at b1;cases b1;have hn:n=zs.length:=by omega
      subst hn;have N:loc.blk<w.heap.size:=u.low b loc A (by rw[F];rfl) E;have hV:∀ i:Fin zs.length,∃V,w.cell? ⟨loc.blk,loc.base+o+i,none⟩=some V/\aL ι (l.getD i .undef) V/\V.oneCell=true/\w.frozen? ⟨loc.blk,loc.base+o+i,none⟩=false:=fun i=>by obtain⟨V,c1,c2,c3,c4⟩:=b3 (o+i) (by have:=i.2;omega);rw[<-ui]at c1 c4;refine⟨V,c1,?_,c3,c4 rfl⟩;rw[kw,G i i.2];exact c2
      let enc:Fin zs.length->Value:=fun i=>Classical.choose (hV i)
      have q:∀ i:Fin zs.length,w.cell? ⟨loc.blk,loc.base+o+i,none⟩=some (enc i)/\aL ι (l.getD i .undef) (enc i)/\(enc i).oneCell=true/\w.frozen? ⟨loc.blk,loc.base+o+i,none⟩=false:=fun i=>uq (hV i);have O:∀ j (h:j<(Array.finRange zs.length).size),((Array.finRange zs.length)[j]! :Fin zs.length)=⟨j,by simpa using h⟩:=fun j h=>by rw[getElem!_pos _ j h];simp
      have B:Holds enc w loc.blk (loc.base+o) (Array.finRange zs.length):=fun j z=>by obtain⟨S,_,_,e4⟩:=q ⟨j,by simpa using z⟩;rw[O j z];exact⟨S,e4⟩
      have Q:∀ i:Fin zs.length,∃K oa na ca,enc i=.slice (some ⟨K,oa,none⟩) na ca/\0<na/\K≠loc.blk/\K<w.heap.size/\w.cell? ⟨K,oa,none⟩=some (.int .i64 zs[i]):=fun i=>by
       have hi:=i.2;obtain⟨I,J,ni,mi,xi,S,L,a⟩:=zmp (hh i (by omega) i.2);obtain⟨_,y,_,_⟩:=q i;rw[kw,lL (by omega)]at y;have y:aL ι (l[(i:Nat)]'(by omega)) (enc i):=y;rw[S]at y;simp only[aL]at y;obtain⟨_,M,T,k2⟩:=y;have C:I≠b:=fun e=>by subst e;rw[Hp.get_put _ _ _ _ oI oI,kz rfl]at a;cases a
       rw[Hp.get_put _ _ _ _ oI oI,lu C]at a;have D:=u.blk I oI;cases t:H.get I with
       |cells di ni' ci ri zi=>
        rw[t]at a D;have a:(bif Nat.blt J ni' then R0.val ((dJ di J).f ci)else .bad)=.val (.int .i64 zs[i]):=a;cases s:Nat.blt J ni' with
        |false=>rw[s]at a;cases a
        |true=>rw[s]at a;simp only[uC,R0.val.injEq]at a;have s:=nP s;obtain⟨li',q1,q2,q3,_⟩:=D;rw[T]at q1;cases q1;obtain⟨Vi,p1,U,_,_⟩:=q3 J s;rw[a]at U;simp only[aL]at U;subst U;exact⟨M.blk,M.base+J,ni,_,k2,L,fun e=>C (u.inj b I loc M oI oI (by rw[F];rfl) (by rw[t];rfl) E T e.symm).symm,u.low I M oI (by rw[t];rfl) T,p1⟩
       |_=>rw[t]at a;cases a
      refine(hf zs g enc loc.blk (loc.base+o) (if x then m else m+loc.ext) w Q B N).mono fun e w' hp=>?_;obtain⟨rfl,k,os,rfl⟩:=hp;obtain⟨g1,g2⟩:=q6k enc u F E B (d:=cB zs g.pos) (l:=(cB zs g.pos).toList.map fun i:Fin zs.length=>l.getD i.1 .undef) (by rw[p];simp) (by simp) (by omega) (fun j z=>by obtain⟨_,L,a,_⟩:=q (cB zs g.pos)[j]!;refine⟨?_,a⟩;rw[getElem!_pos _ j z]at L ⊢;rw[kw (l:=(cB zs g.pos).toList.map _),xw,lL (by simpa using z)];exact L) k os;exact⟨ι,by simp only[aL,aK];exact⟨[],rfl,rfl⟩,g1,g2⟩
    ·cases h
   ·cases h
  ·cases h
 ·cases h
theorem q6b{e:Ext}(u:vQ P e){f i:FuncId}(y:mY P f i)(s:oF P f)(t:qfl P f=true):vQ P (qmt f i e):=by
 refine⟨fun g args H r a v z l ι w A j d=>?_⟩;unfold qmt at a;cases p:Nat.beq g f with
 |false=>rw[p]at a;exact u.fn g _ H r a v z l ι w A j d
 |true=>
  rw[p]at a;obtain rfl:=qp p;refine⟨qea t _,fun k=>callsIn_wide.2 ?_⟩;simp only[uC]at a;split at a
  ·rename_i b o n m x c;cases h:Nat.beq c i with
   |false=>rw[h]at a;cases a
   |true=>
    rw[h]at a;obtain rfl:=qp h;subst l;cases q:Nat.beq n 0 with
    |false=>rw[q]at a;exact zkm y a j d
    |true=>rw[q]at a;cases a;obtain rfl:=qp q;simp only[aK,aL]at d;obtain⟨V,r,rfl,⟨B,loc,t,rfl⟩,V2,C,rfl,⟨_,_,rfl,rfl,rfl⟩,rfl⟩:=d;exact qov s j
  ·rename_i c;cases h:Nat.beq c i with
   |false=>rw[h]at a;cases a
   |true=>rw[h]at a;cases a;cases l;simp only[aK,aL]at d;obtain⟨V,r,rfl,rfl,V2,C,rfl,⟨_,_,rfl,rfl,rfl⟩,rfl⟩:=d;exact qov s j
  ·cases a
end Go.Ev
end
noncomputable section
namespace Go.Ev
open Go.RowKit
variable {P:Program} {w:World}
def aH7(P:Program)(f:FuncId)(s:Nat×Nat):Prop:=∀(V:Value) (ι:Im) (w:World),aL ι (.str s.1 s.2) V->Calls P f #[V] w fun e w'=>e=.returned (.int .i64 1)/\Below w.heap.size w w'
def qxb(fs:List FuncId)(ns:List (Nat×Nat))(e:Ext):Ext:=fun g args H=>
 bif fs.any (Nat.beq g)then(match args with
 | [.str n a]=>bif ns.any (fun s=>Nat.beq n s.1&&Nat.beq a s.2)then some (.ok (.int .i64 (.ofNat 1)) H)else none
 |_=>none)else e g args H
theorem zcr{e:Ext}(x:vQ P e){i:List FuncId}{m:List (Nat×Nat)}(h:∀ f∈i,∀s∈m,aH7 P f s)(y:i.all (qfl P)=true):vQ P (qxb i m e):=by
 refine⟨fun g args H r b v z t ι w A u o=>?_⟩;unfold qxb at b;cases j:i.any (Nat.beq g)with
 |false=>rw[j]at b;exact x.fn g _ H r b v z t ι w A u o
 |true=>
  rw[j]at b;simp only[uC]at b;rw[zt]at j;obtain⟨I,d,p⟩:=j;obtain rfl:=qp p;refine⟨qea (yl.1 y _ d) _,fun k=>callsIn_wide.2 ?_⟩;split at b
  ·rename_i n a;cases l:m.any (fun s=>Nat.beq n s.1&&Nat.beq a s.2)with
   |false=>rw[l]at b;cases b
   |true=>rw[l]at b;cases b;cases t;rw[zt]at l;obtain⟨s,q,c⟩:=l;rw[qc]at c;have C:=qp c.1;have D:=qp c.2;subst C D;simp only[aK]at o;obtain⟨V,r,rfl,E,rfl⟩:=o;refine(h g d s q V ι w E).mono fun e w' B=>?_;obtain⟨rfl,F⟩:=B;obtain⟨G,k2⟩:=u.of_below F;exact⟨ι,by simp[aL],G,k2⟩
  ·cases b
def z2r:R1->Bool
 | .ok (.int .i64 x) _=>(match x with| .ofNat n=>Nat.beq n 1| .negSucc _=>false)
 |_=>false
theorem q6w(d:P.follows .mixedOrders=true){ext:Ext}(g:vQ P ext){k:Nat}{f:FuncId}{s:Nat×Nat}(h:z2r (eY P ext k (.f f) [.str s.1 s.2] Hp.empty)=true):aH7 P f s:=by
 intro V ι w i;unfold z2r at h;split at h
 ·rename_i x o j;split at h
  ·rename_i n;obtain rfl:=qp h;have:=((qg5 d g k).fn _ _ _ _ _ j (fun _=>none) w [V] HR.empty (by simp only[aK];exact⟨V,[],rfl,by simpa only[aL] using i,rfl⟩)).2 0;refine(callsIn_wide.1 this).mono fun e w' a=>?_;cases e with
   |returned V=>obtain⟨p,c,q,m⟩:=a;simp only[aL]at c;exact⟨by rw[c];rfl,m.below _ (lh _) fun b l _ _ h=>by cases h⟩
   |panicked=>exact a.elim
   |outgrown=>exact a.elim
  ·cases h
 ·cases h
end Go.Ev
end
noncomputable section
namespace Go.Ev
open Go.RowKit Go.WideShapes Go.ChangeShapes Go.ChangeAt
variable {P:Program} {Hd:Type} {enc:TypeId×Value->Hd}
theorem qjs(c:laidOutB P=true){W d:World}{f:Nat->Bool}:∀{ts:List TypeId} {vs:List Value} {ds:List (DataW Hd)} {b:List MemPlace},(∀t∈ts,P.readableRec t=true/\t<P.types.size) -> DataW.TrodAll enc P W 0 (fun _=>true) true ts vs ds b->(∀p∈b,W.sameAt d p)->(∀p∈b,f p.block=true)->DataW.TrodAll enc P d 0 f true ts vs ds b
 | [],[],[],_,_,h,_,_=>h
 |_::_,_::_,_::_,_,hT,⟨p,q,h1,h2,e⟩,hs,hb=>
  ⟨p,q,WideElems.Trod_stays c (hT _ (qm.2 (Or.inl rfl))).1 (hT _ (qm.2 (Or.inl rfl))).2 h1 (fun x a=>hs x (by rw[e];exact vz _ a)) (fun x a=>hb x (by rw[e];exact vz _ a)),
   qjs c (fun t g=>hT t (qm.2 (Or.inr g))) h2 (fun x a=>hs x (by rw[e];exact xf _ a)) (fun x a=>hb x (by rw[e];exact xf _ a)),e⟩
def z6i(P:Program)(ts:List TypeId):Bool:=ts.all fun t=>P.readableRec t&&decide (t<P.types.size)
theorem ztd(C:laidOutB P=true){f:Func}{s:ChangeSpec}{a g c h:Bool}{W v:World}{args:Array Value}{ds D:List (DataW Hd)}{d:List MemPlace}{tb:TypeId}(w:DataW.Whole enc P f.params.toList s.vars a W args.toList ds D d)(y:s.vars=[])(E:z6i P f.params.toList=true)(i:s.fn Hd ds={results:=[.lit (.bool true)],args:=ds})(e:f.resultTypes= #[tb])(l:P.underlying tb=some .bool)(z:Below W.heap.size W v):s.post enc P f a g c h W args (.bool true) v:=by
 have m:=w;obtain⟨p,q,G,B,u,_,_⟩:=w;rw[y]at B;obtain⟨rfl,rfl⟩:=trodVars_none B;have j:∀ t∈f.params.toList,P.readableRec t=true/\t<P.types.size:=fun t F=>by have:=yl.1 E t F;simp_all
 have k:ds++[]=ds:=ut ds;refine zcn (pa:=p) (pv:=[]) m (fun b A hd=>?_) (fun A o=>?_) (fun A _=>?_) u z ?_
 ·rw[k,i,e];exact trodAll_cons_mk (shut_bool l _) trodAll_mk0
 ·rw[k,i];have n:=m.lt;exact qjs C j G (fun x r=>z.same (n x (by rw[u];simpa using r))) (fun x r=>o x (by rw[u];simpa using r))
 ·rw[k,i,y];rfl
 ·exact ok_one e rfl (okWide_bool_mk l _)
end Go.Ev
end
