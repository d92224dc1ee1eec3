/-
 For countersign/countersignlaw20.FitsAll: the evaluator and its soundness, part 4 of 4: what a run of the abstract evaluator answers, the model's run answers, in every world and on every schedule. No conditions beyond those that each theorem states.
-/
import Derived.Test.YtbfjjkjiokfdgaaGreatEv3
import Derived.Sort.Grow
import Derived.Sort.EveryDepth
import Derived.Sort.Defs
import Derived.Shelf.GgSortFunc.InsertionK
import Derived.Lib.BitFns
import Derived.WideKeyArgs
import Derived.Carry
import Derived.OpenShut
import Derived.ProofKit
import Derived.WalkKit
noncomputable section
namespace Go.Di
open Go.Ev
variable {d:Nat}
def G(L:TT AV d)(i:Nat):AV:=(dJ d i).f L
abbrev Kt(d:Nat):=Ex->TT AV d->Hp->R1
def fin(r:Rc d)(K:Kt d):R1:=match r with| .bad=>.bad| .ok e L H=>K e L H
def pG(r:Rs d)(k:TT AV d->Hp->R1):R1:=match r with| .bad=>.bad| .ok L H=>k L H
def aGW(r:Rx d)(k:TT AV d->Hp->List Pd->List Wt->R1):R1:=match r with| .bad=>.bad| .ok L H p w=>k L H p w
def nrm(r:R0)(H:Hp):Option (AV×Hp):=match r with| .bad=>none| .val v=>some (v,H)| .new v b=>some (v,aO H b)
def vq(r:R0)(H:Hp)(k:AV->Hp->R1):R1:=match nrm r H with|none=>.bad|some p=>k p.1 p.2
def ve(r:R1)(k:AV->Hp->R1):R1:=match r with| .bad=>.bad| .ok v H=>k v H
def vg0(w:Option Bool)(r:R0)(H:Hp)(k:AV->Hp->R1):R1:=match w with|some true=>vq r H k|some false=>k .undef H|none=>.bad
def aCw(w:Option Bool)(r:R1)(H:Hp)(k:AV->Hp->R1):R1:=match w with|some true=>ve r k|some false=>k .undef H|none=>.bad
def bI(want:Bool)(v:AV):Option Bool:=match v with| .bool b=>some (b==want)| .undef=>some false|_=>none
def cd(x:AV)(a b:R1):R1:=match x with| .bool true=>a| .bool false=>b|_=>.bad
/- steps of a region that draws its order -/
def dq0(lk al:Bool)(i A nm:Nat)(H:Hp)(p:List Pd)(w:List Wt)(f:Hp->R0)(g:Option Bool)(k:AV->Hp->List Pd->List Wt->R1):R1:=
 match g with
 |none=>.bad
 |some false=>k .undef H p w
 |some true=>match f (eP A p H)with
  | .bad=>.bad
  | .val v=>k v H p (bif lk then⟨i,A,f,v⟩::w else w)
  | .new v b=>bif al&&b.wr then k v H (⟨i,nm,b⟩::p) w else .bad
def de0(A:Nat)(H:Hp)(p:List Pd)(w:List Wt)(r:R1)(g:Option Bool)(k:AV->Hp->List Pd->List Wt->R1):R1:=
 match g with
 |none=>.bad
 |some false=>k .undef H p w
 |some true=>match r with
  | .bad=>.bad
  | .ok v H'=>bif qi8 (qJ A p) H' (qG A w)then k v H' (qJ A p) (qG A w)else .bad
def vl(r:R0)(k:AV->R1):R1:=match r with| .bad=>.bad| .val v=>k v| .new _ _=>.bad
def aAU(w:Option Bool)(r:R0)(k:AV->R1):R1:=match w with|some true=>vl r k|some false=>k .undef|none=>.bad
/- constants that cannot be taken apart: so two sides are compared argument by argument -/
def vg:Option Bool->R0->Hp->(AV->Hp->R1)->R1:=Classical.choose (⟨vg0,rfl⟩:∃ f,f=vg0)
theorem z0i:vg=vg0:=ul (⟨vg0,rfl⟩:∃ f,f=vg0)
def veg:Option Bool->R1->Hp->(AV->Hp->R1)->R1:=Classical.choose (⟨aCw,rfl⟩:∃ f,f=aCw)
theorem zir:veg=aCw:=ul (⟨aCw,rfl⟩:∃ f,f=aCw)
def vlg:Option Bool->R0->(AV->R1)->R1:=Classical.choose (⟨aAU,rfl⟩:∃ f,f=aAU)
theorem q7i:vlg=aAU:=ul (⟨aAU,rfl⟩:∃ f,f=aAU)
def dq:Bool->Bool->Nat->Nat->Nat->Hp->List Pd->List Wt->(Hp->R0)->Option Bool->(AV->Hp->List Pd->List Wt->R1)->R1:=Classical.choose (⟨dq0,rfl⟩:∃ f,f=dq0)
theorem ztx:dq=dq0:=ul (⟨dq0,rfl⟩:∃ f,f=dq0)
def de:Nat->Hp->List Pd->List Wt->R1->Option Bool->(AV->Hp->List Pd->List Wt->R1)->R1:=Classical.choose (⟨de0,rfl⟩:∃ f,f=de0)
theorem zty:de=de0:=ul (⟨de0,rfl⟩:∃ f,f=de0)
theorem q9i(put:TT AV d->AV->TT AV d)(L:TT AV d)(H:Hp)(r:R0)(k:TT AV d->Hp->R1):pG (doQ put L H r) k=vq r H fun v H=>k (put L v) H:=by cases r<;>rfl
theorem q9j(put:TT AV d->AV->TT AV d)(L:TT AV d)(r:R1)(k:TT AV d->Hp->R1):pG (doE put L r) k=ve r fun v H=>k (put L v) H:=by cases r<;>rfl
structure StC(d:Nat) where f:Ev.Call->TT AV d->Hp->(TT AV d->Hp->R1)->R1
def zi3(P:Program)(d n:Nat)(ops:Array Oper)(o:Oper):StC d:=
 match gZ P d n o,o.guard,r9 d n ops o,dW d n o.dst with
 | .q _ f,none,_,⟨put⟩=>⟨fun _ L H k=>vq (f H.nx L H) H fun v H=>k (put L v) H⟩
 | .e f,none,_,⟨put⟩=>⟨fun O L H k=>ve (f O L H) fun v H=>k (put L v) H⟩
 | .q _ f,some _,⟨w⟩,⟨put⟩=>⟨fun _ L H k=>vg (w L) (f H.nx L H) H fun v H=>k (put L v) H⟩
 | .e f,some _,⟨w⟩,⟨put⟩=>⟨fun O L H k=>veg (w L) (f O L H) H fun v H=>k (put L v) H⟩
theorem zi2(P:Program)(d n:Nat)(ops:Array Oper)(o:Oper)(O:Ev.Call)(L:TT AV d)(H:Hp)(k:TT AV d->Hp->R1):pG ((xY P d n ops o).f O L H) k=(zi3 P d n ops o).f O L H k:=by
 unfold xY zi3;generalize gZ P d n o=x;generalize o.guard=g;generalize r9 d n ops o=w;generalize dW d n o.dst=p;obtain⟨w⟩:=w;cases x with
 |q l f=>cases g with
  |none=>exact q9i ..
  |some j=>
   show pG (ifW (w L) _ _) k=vg (w L) _ H _;rw[z0i];cases h:w L with
   |none=>rfl
   |some b=>cases b with
    |true=>exact q9i ..
    |false=>rfl
 |e f=>cases g with
  |none=>exact q9j ..
  |some j=>
   show pG (ifW (w L) _ _) k=veg (w L) _ H _;rw[zir];cases h:w L with
   |none=>rfl
   |some b=>cases b with
    |true=>exact q9j ..
    |false=>rfl
def q7q(P:Program)(d n:Nat)(ops:Array Oper)(o:Oper):StC d:=
 match yJ o with
 |none=>zi3 P d n ops o
 |some _=>match qjb P d n ops o with|⟨g⟩=>⟨fun O L H k=>pG (g O L H) k⟩
theorem zi4(P:Program)(d n:Nat)(ops:Array Oper)(o:Oper)(O:Ev.Call)(L:TT AV d)(H:Hp)(k:TT AV d->Hp->R1):pG ((qjb P d n ops o).f O L H) k=(q7q P d n ops o).f O L H k:=by
 unfold q7q;cases h:yJ o with
 |none=>simp only;rw[<-zi2];unfold qjb;rw[h]
 |some c=>rfl
def aD5(P:Program)(d n:Nat)(ops:Array Oper):List Oper->StC d
 | []=>⟨fun _ L H k=>k L H⟩
 |o::r=>match q7q P d n ops o,aD5 P d n ops r with|⟨g⟩,⟨h⟩=>⟨fun O L H k=>g O L H fun L H=>h O L H k⟩
theorem zkd(P:Program)(d n:Nat)(ops:Array Oper)(O:Ev.Call):∀(l:List Oper) (L:TT AV d) (H:Hp) (k:TT AV d->Hp->R1), pG ((pY P d n ops l).f O L H) k=(aD5 P d n ops l).f O L H k
 | [],_,_,_=>rfl
 |o::r,L,H,k=>by
  show pG (zcd ((qjb P d n ops o).f O L H) ((pY P d n ops r).f O)) k=(q7q P d n ops o).f O L H fun L H=>(aD5 P d n ops r).f O L H k;rw[<-zi4];cases (qjb P d n ops o).f O L H with
  |bad=>rfl
  |ok L H=>exact zkd P d n ops O r L H k
structure SxC(d:Nat) where f:Ev.Call->Nat->TT AV d->Hp->List Pd->List Wt->(TT AV d->Hp->List Pd->List Wt->R1)->R1
def qsb(P:Program)(d n:Nat)(ops:Array Oper)(i A:Nat)(o:Oper):SxC d:=
 match gZ P d n o,mW d n (kY ops o),r9 d n ops o,dW d n o.dst with
 | .q lk f,⟨pj⟩,⟨w⟩,⟨put⟩=>⟨fun _ base L H p ws k=>dq lk (qhy o.op&& !lk) i A (base+i) H p ws (f (base+i) (pj L)) (w (pj L)) fun v H p ws=>k (put L v) H p ws⟩
 | .e f,⟨pj⟩,⟨w⟩,⟨put⟩=>⟨fun O _ L H p ws k=>de A H p ws (f O (pj L) (eP A p H)) (w (pj L)) fun v H p ws=>k (put L v) H p ws⟩
theorem zi1(P:Program)(d n:Nat)(ops:Array Oper)(i A:Nat)(o:Oper)(O:Ev.Call)(base:Nat)(L:TT AV d)(H:Hp)(p:List Pd)(ws:List Wt)(k:TT AV d->Hp->List Pd->List Wt->R1):aGW ((qx9 P d n ops i A o).f O base L H p ws) k=(qsb P d n ops i A o).f O base L H p ws k:=by
 unfold qx9 qsb;generalize gZ P d n o=x;generalize mW d n (kY ops o)=j;generalize r9 d n ops o=w;generalize dW d n o.dst=pt;obtain⟨w⟩:=w;obtain⟨j⟩:=j;cases x with
 |q lk f=>
  dsimp only;rw[ztx];unfold qX dq0;cases w (j L)with
  |none=>rfl
  |some b=>cases b with
   |false=>rfl
   |true=>
    cases f (base+i) (j L) (eP A p H)with
    |bad=>rfl
    |val v=>rfl
    |new v b=>simp only;cases (qhy o.op&& !lk&&b.wr)<;>rfl
 |e f=>
  dsimp only;rw[zty];unfold eX de0;cases w (j L)with
  |none=>rfl
  |some b=>cases b with
   |false=>rfl
   |true=>
    cases f O (j L) (eP A p H)with
    |bad=>rfl
    |ok v H'=>simp only;cases qi8 (qJ A p) H' (qG A ws)<;>rfl
def qqa(P:Program)(d n:Nat)(ops:Array Oper)(ms:List Nat):List Nat->SxC d
 | []=>⟨fun _ _ L H p w k=>k L H p w⟩
 |i::r=>match ops[i]? with
  |some o=>match qsb P d n ops i (ms.getD i 0) o,qqa P d n ops ms r with|⟨g⟩,⟨h⟩=>⟨fun O base L H p w k=>g O base L H p w fun L H p w=>h O base L H p w k⟩
  |none=>⟨fun _ _ _ _ _ _ _=>.bad⟩
theorem q8l(P:Program)(d n:Nat)(ops:Array Oper)(ms:List Nat)(O:Ev.Call)(base:Nat):∀(l:List Nat) (L:TT AV d) (H:Hp) (p:List Pd) (w:List Wt) (k:TT AV d->Hp->List Pd->List Wt->R1), aGW ((sP P d n ops ms l).f O base L H p w) k=(qqa P d n ops ms l).f O base L H p w k
 | [],_,_,_,_,_=>rfl
 |i::r,L,H,p,w,k=>by
  unfold sP qqa;cases ops[i]? with
  |none=>rfl
  |some o=>
   show aGW (z3j ((qx9 P d n ops i (ms.getD i 0) o).f O base L H p w) ((sP P d n ops ms r).f O base)) k=(qsb P d n ops i (ms.getD i 0) o).f O base L H p w fun L H p w=>(qqa P d n ops ms r).f O base L H p w k;rw[<-zi1];cases (qx9 P d n ops i (ms.getD i 0) o).f O base L H p w with
   |bad=>rfl
   |ok L H p w=>exact q8l P d n ops ms O base r L H p w k
def z2p(P:Program)(d n:Nat)(ops:Array Oper):StC d:=
 match q43 P d n ops with
 |none=>⟨fun _ _ _ _=>.bad⟩
 |some pl=>match qqa P d n ops pl.ms pl.ord with
  |⟨g⟩=>⟨fun O L H k=>g O H.nx L ⟨H.t,H.nx+pl.up⟩ [] [] fun L H p _=>k L (nQ p H)⟩
theorem ztw(P:Program)(d n:Nat)(ops:Array Oper)(O:Ev.Call)(L:TT AV d)(H:Hp)(k:TT AV d->Hp->R1):pG ((qls P d n ops).f O L H) k=(z2p P d n ops).f O L H k:=by
 unfold qls z2p;cases q43 P d n ops with
 |none=>rfl
 |some pl=>show pG (match(sP P d n ops pl.ms pl.ord).f O H.nx L ⟨H.t,H.nx+pl.up⟩ [] []with| .bad=>.bad| .ok L' H' pend _=>.ok L' (nQ pend H')) k=(qqa P d n ops pl.ms pl.ord).f O H.nx L ⟨H.t,H.nx+pl.up⟩ [] [] fun L H p _=>k L (nQ p H);rw[<-q8l];cases (sP P d n ops pl.ms pl.ord).f O H.nx L ⟨H.t,H.nx+pl.up⟩ [] []<;>rfl
/- regions that draw their order, without effects and new blocks -/
def q8f(P:Program)(d n:Nat)(ops:Array Oper)(i:Nat):Bool:=match ops[i]? with|some o=> !isE (gZ P d n o)&& !qhy o.op|none=>false
def z1x(P:Program)(d n:Nat)(ops:Array Oper)(i:Nat)(o:Oper):StC d:=
 match gZ P d n o,mW d n (kY ops o),o.guard,r9 d n ops o,dW d n o.dst with
 | .q _ f,⟨pj⟩,none,_,⟨put⟩=>⟨fun _ L H k=>vl (f (H.nx+i) (pj L) H) fun v=>k (put L v) H⟩
 | .q _ f,⟨pj⟩,some _,⟨w⟩,⟨put⟩=>⟨fun _ L H k=>vlg (w (pj L)) (f (H.nx+i) (pj L) H) fun v=>k (put L v) H⟩
 | .e _,_,_,_,_=>⟨fun _ _ _ _=>.bad⟩
def q45(P:Program)(d n:Nat)(ops:Array Oper):List Nat->StC d
 | []=>⟨fun _ L H k=>k L H⟩
 |i::r=>match ops[i]? with
  |some o=>match z1x P d n ops i o,q45 P d n ops r with|⟨g⟩,⟨h⟩=>⟨fun O L H k=>g O L H fun L H=>h O L H k⟩
  |none=>⟨fun _ _ _ _=>.bad⟩
theorem zw5(lk:Bool)(i A nm:Nat)(H:Hp)(w:List Wt)(f:Hp->R0)(g:Option Bool)(k:AV->Hp->List Pd->List Wt->R1)(k':AV->R1)(h:∀ v w,k v H [] w=k' v):dq lk false i A nm H [] w f g k=vlg g (f H) k':=by
 rw[ztx,q7i];unfold dq0 aAU;cases g with
 |none=>rfl
 |some b=>cases b with
  |false=>exact h _ _
  |true=>
   show(match f H with| .bad=>R1.bad| .val v=>_| .new v b=>_)=vl (f H) k';cases f H with
   |bad=>rfl
   |val v=>exact h _ _
   |new v b=>rfl
theorem qwe(P:Program)(d n:Nat)(ops:Array Oper)(ms:List Nat)(O:Ev.Call)(H:Hp):∀(l:List Nat),l.all (q8f P d n ops)=true->∀(L:TT AV d) (w:List Wt) (k:TT AV d->Hp->R1), (qqa P d n ops ms l).f O H.nx L H [] w (fun L H p _=>k L (nQ p H))=(q45 P d n ops l).f O L H k
 | [],_,_,_,_=>rfl
 |i::r,hl,L,w,k=>by
  rw[lE5,pq]at hl;have hq:=hl.1;unfold q8f at hq;unfold qqa q45;cases ho:ops[i]? with
  |none=>simp[ho]at hq
  |some o=>
   rw[ho]at hq;simp only[pq,xe]at hq;show(qsb P d n ops i (ms.getD i 0) o).f O H.nx L H [] w (fun L H' p w=>(qqa P d n ops ms r).f O H.nx L H' p w (fun L H p _=>k L (nQ p H)))=(z1x P d n ops i o).f O L H fun L H=>(q45 P d n ops r).f O L H k;unfold qsb z1x;have hal:=hq.2;have hE:=hq.1;have hw:o.guard=none->(r9 d n ops o).f=fun _=>some true:=fun hg=>by unfold r9;rw[hg]
   generalize r9 d n ops o=x1 at hw;generalize gZ P d n o=x2 at hE;generalize mW d n (kY ops o)=x3;generalize dW d n o.dst=x4;obtain⟨x1⟩:=x1;obtain⟨x3⟩:=x3;obtain⟨x4⟩:=x4;cases x2 with
   |e f=>cases hE
   |q lk f=>
    cases hg:o.guard with
    |none=>have e:=hw hg;subst e;rw[hal];refine(zw5 lk i _ _ H w _ (some true) _ (fun v=>(q45 P d n ops r).f O (x4 L v) H k) fun v w=>?_).trans (by rw[q7i];rfl);exact qwe P d n ops ms O H r hl.2 (x4 L v) w k
    |some j=>rw[hal];exact zw5 lk i _ _ H w _ (x1 (x3 L)) _ (fun v=>(q45 P d n ops r).f O (x4 L v) H k) fun v w=>qwe P d n ops ms O H r hl.2 (x4 L v) w k
def z2o(P:Program)(d n:Nat)(ops:Array Oper):StC d:=
 match q43 P d n ops with
 |none=>⟨fun _ _ _ _=>.bad⟩
 |some pl=>match pl.ord.all (q8f P d n ops)&&Nat.beq pl.up 0,q45 P d n ops pl.ord,qqa P d n ops pl.ms pl.ord with
  |true,⟨g⟩,_=>⟨g⟩
  |false,_,⟨g⟩=>⟨fun O L H k=>g O H.nx L ⟨H.t,H.nx+pl.up⟩ [] [] fun L H p _=>k L (nQ p H)⟩
theorem ztv(P:Program)(d n:Nat)(ops:Array Oper)(O:Ev.Call)(L:TT AV d)(H:Hp)(k:TT AV d->Hp->R1):pG ((qls P d n ops).f O L H) k=(z2o P d n ops).f O L H k:=by
 rw[ztw];unfold z2p z2o;cases q43 P d n ops with
 |none=>rfl
 |some pl=>
  dsimp only;cases hq:(pl.ord.all (q8f P d n ops)&&Nat.beq pl.up 0)with
  |false=>rfl
  |true=>rw[pq]at hq;have hu:=rf hq.2;rw[hu];exact qwe P d n ops pl.ms O H pl.ord hq.1 L [] k
def thn(b:TT AV d->Hp->R1)(K:Kt d):Kt d:=fun e L H=>match e with| .normal=>b L H|e=>K e L H
def xA(id:Nat)(K:Kt d):Kt d:=fun e L H=>match e with| .exit i=>bif Nat.beq i id then K .normal L H else K (.exit i) L H|e=>K e L H
structure DnC(d:Nat) where f:Ev.Call->TT AV d->Hp->Kt d->R1
def oF(P:Program)(d n:Nat):Code->DnC d
 | .skip| .label _=>⟨fun _ L H K=>K .normal L H⟩
 | .region _ ops false=>match aD5 P d n ops ops.toList with|⟨g⟩=>⟨fun O L H K=>g O L H (K .normal)⟩
 | .region _ ops true=>match z2o P d n ops with|⟨g⟩=>⟨fun O L H K=>g O L H (K .normal)⟩
 | .seq a b=>match oF P d n a,oF P d n b with|⟨f⟩,⟨g⟩=>⟨fun O L H K=>f O L H (thn (fun L H=>g O L H K) K)⟩
 | .cond x a b=>match aG d n x,oF P d n a,oF P d n b with|⟨g⟩,⟨f⟩,⟨h⟩=>⟨fun O L H K=>cd (g L) (f O L H K) (h O L H K)⟩
 | .block id b=>match oF P d n b with|⟨f⟩=>⟨fun O L H K=>f O L H (xA id K)⟩
 | .scope b=>oF P d n b
 | .exit id=>⟨fun _ L H K=>K (.exit id) L H⟩
 | .ret=>⟨fun _ L H K=>K .ret L H⟩
 |c=>match den P d n c with|⟨g⟩=>⟨fun O L H K=>fin (g O L H) K⟩
theorem q9h(r:Rs d)(K:Kt d):fin (mR r) K=pG r (K .normal):=by cases r<;>rfl
theorem q5l(r:Rc d)(k:TT AV d->Hp->Rc d)(K:Kt d):fin (rA r k) K=fin r (thn (fun L H=>fin (k L H) K) K):=by
 cases r with
 |bad=>rfl
 |ok e L H=>cases e<;>rfl
theorem qzw(id:Nat)(r:Rc d)(K:Kt d):fin (qtb id r) K=fin r (xA id K):=by
 cases r with
 |bad=>rfl
 |ok e L H=>
  cases e with
  |exit i=>show fin (bif Nat.beq i id then _ else _) K=bif Nat.beq i id then _ else _;cases Nat.beq i id<;>rfl
  |_=>rfl
theorem qgt(P:Program)(d n:Nat)(O:Ev.Call):∀(c:Code) (L:TT AV d) (H:Hp) (K:Kt d),fin ((den P d n c).f O L H) K=(oF P d n c).f O L H K
 | .skip,_,_,_| .label _,_,_,_| .exit _,_,_,_| .ret,_,_,_| .goto _,_,_,_| .loop _,_,_,_| .rangeFunc ..,_,_,_| .refuse _,_,_,_=>rfl
 | .region _ ops false,L,H,K=>(q9h ..).trans (zkd ..)
 | .region _ ops true,L,H,K=>(q9h ..).trans (ztv ..)
 | .seq a b,L,H,K=>by refine(q5l ((den P d n a).f O L H) ((den P d n b).f O) K).trans ?_;rw[qgt P d n O a];show(oF P d n a).f O L H (thn (fun L H=>fin ((den P d n b).f O L H) K) K)=(oF P d n a).f O L H (thn (fun L H=>(oF P d n b).f O L H K) K);congr 2;funext L H;exact qgt P d n O b L H K
 | .cond x a b,L,H,K=>by
  show fin (condC ((aG d n x).f L) ((den P d n a).f O L H) ((den P d n b).f O L H)) K=cd ((aG d n x).f L) ((oF P d n a).f O L H K) ((oF P d n b).f O L H K);rw[<-qgt P d n O a,<-qgt P d n O b];generalize (aG d n x).f L=v;cases v with
  |bool q=>cases q<;>rfl
  |_=>rfl
 | .block id b,L,H,K=>(qzw ..).trans (qgt P d n O b L H (xA id K))
 | .scope b,L,H,K=>qgt P d n O b L H K
def Lk(P:Program)(d n:Nat)(O:Ev.Call)(c:Code)(K:Kt d)(D:TT AV d->Hp->R1):Prop:=∀ L H,fin ((den P d n c).f O L H) K=D L H
variable {P:Program} {n:Nat} {O:Ev.Call} {K:Kt d}
theorem p6{c:Code}{D:TT AV d->Hp->R1}(h:∀ L H,(oF P d n c).f O L H K=D L H):Lk P d n O c K D:=fun L H=>(qgt P d n O c L H K).trans (h L H)
theorem q6{a b:Code}{D E:TT AV d->Hp->R1}(hb:Lk P d n O b K E)(ha:Lk P d n O a (thn E K) D):Lk P d n O (.seq a b) K D:=fun L H=>by refine(q5l ((den P d n a).f O L H) ((den P d n b).f O) K).trans ?_;rw[show(fun L H=>fin ((den P d n b).f O L H) K)=E from funext fun L=>funext fun H=>hb L H];exact ha L H
theorem r8{id:Nat}{b:Code}{D:TT AV d->Hp->R1}(h:Lk P d n O b (xA id K) D):Lk P d n O (.block id b) K D:=fun L H=>(qzw ..).trans (h L H)
theorem qS{b:Code}{D:TT AV d->Hp->R1}(h:Lk P d n O b K D):Lk P d n O (.scope b) K D:=h
theorem pB{x:Operand}{a b:Code}{A B:TT AV d->Hp->R1}(ha:Lk P d n O a K A)(hb:Lk P d n O b K B):Lk P d n O (.cond x a b) K (fun L H=>cd ((aG d n x).f L) (A L H) (B L H)):=fun L H=>by
 show fin (condC ((aG d n x).f L) ((den P d n a).f O L H) ((den P d n b).f O L H)) K=cd ((aG d n x).f L) (A L H) (B L H);rw[<-ha L H,<-hb L H];generalize (aG d n x).f L=v;cases v with
 |bool q=>cases q<;>rfl
 |_=>rfl
def dM:Nat:=Classical.choose (⟨bX,rfl⟩:∃ n,n=bX)
theorem dB:dM=bX:=ul (⟨bX,rfl⟩:∃ n,n=bX)
theorem pT{b:Code}{D:Nat->TT AV d->Hp->R1}(hs:∀ k,Lk P d n O b (thn (D k) K) (D (k+1)))(h0:∀ L H,D 0 L H=.bad:=by intros;kernel_rfl):Lk P d n O (.loop b) K (D dM):=by
 have main:∀ k L H,fin (qqd ((den P d n b).f O) k L H) K=D k L H:=by
  intro k
  induction k with
  |zero=>intro L H;exact(h0 L H).symm
  |succ k ih=>intro L H;show fin (rA ((den P d n b).f O L H) (qqd ((den P d n b).f O) k)) K=_;rw[q5l,show(fun L H=>fin (qqd ((den P d n b).f O) k L H) K)=D k from funext fun L=>funext fun H=>ih L H];exact hs k L H
 rw[dB];exact fun L H=>main bX L H
theorem p5{c:Code}{D E:TT AV d->Hp->R1}(h:Lk P d n O c K D)(e:∀ L H,D L H=E L H:=by intros;kernel_rfl):Lk P d n O c K E:=fun L H=>(h L H).trans (e L H)
def aHA(n:Nat)(O:Ev.Call)(res:TT AV d->Hp->Option AV):Kt d:=fun e L H=>match e with| .normal=>iE n O res L H| .ret=>iE n O res L H|_=>.bad
theorem z00(n:Nat)(O:Ev.Call)(res:TT AV d->Hp->Option AV)(r:Rc d):aCO n O res r=fin r (aHA n O res):=by
 cases r with
 |bad=>rfl
 |ok e L H=>cases e<;>rfl
def codeOf(f:Func):Code:=match f.body with|some c=>c|none=>.skip
theorem zth{f:FuncId}{F:Func}(hf:P.funcs[f]? =some F)(hn:(F.name == "runtime.NumGoroutine")=false) (hb:F.body.isSome=true) {args:List AV} (ha:(Nat.ble args.length F.ntmps&&Nat.ble (F.ntmps+1) 262144)=true)
  {D:TT AV (iO (F.ntmps+1))->Hp->R1} (h:Lk P (iO (F.ntmps+1)) F.ntmps O (codeOf F) (aHA F.ntmps O (qcj P (iO (F.ntmps+1)) F.ntmps F.results.toList).f) D) (H:Hp) :
  (aM P f).f O args H=D (nV args 0 (same .undef _)) H:=by
 unfold aM;rw[hf];simp only[hn,aj,lA4];unfold codeOf at h;cases hc:F.body with
 |none=>rw[hc]at hb;cases hb
 |some c=>rw[hc]at h;show(bif Nat.ble args.length F.ntmps&&Nat.ble (F.ntmps+1) 262144 then aCO F.ntmps O _ _ else .bad)=_;rw[ha,<-h _ H];exact z00 ..
end Go.Di
namespace Go.Di
open Go.Ev
variable {d n:Nat} {P:Program} {O:Ev.Call}
def qkx:Code->Bool
 | .region _ ops _=> !(ops.toList.any qR)
 | .seq a b=>qkx a&&qkx b
 | .cond _ a b=>qkx a&&qkx b
 | .block _ b=>qkx b
 | .loop b=>qkx b
 | .scope b=>qkx b
 | .rangeFunc .. =>true
 |_=>true
theorem zml{o:Oper}(h:qR o=false):yJ o=none:=by
 unfold qR at h;unfold yJ;split
 ·simp_all
 ·rfl
theorem qy8(hn:n<8 ^ d){ops:Array Oper}:∀(l:List Oper),l.any qR=false->∀{L:TT AV d} {H:Hp} {L':TT AV d} {H':Hp},(pY P d n ops l).f O L H=.ok L' H'->(dJ d n).f L'=(dJ d n).f L
 | [],_,L,H,L',H',h=>by cases h;rfl
 |o::r,hl,L,H,L',H',h=>by
  rw[List.any_cons,lAG]at hl;have h':zcd ((qjb P d n ops o).f O L H) ((pY P d n ops r).f O)=.ok L' H':=h;cases h1:(qjb P d n ops o).f O L H with
  |bad=>rw[h1]at h';cases h'
  |ok L1 H1=>rw[h1]at h';unfold qjb at h1;rw[zml hl.1]at h1;exact(qy8 hn r hl.2 h').trans (qsc hn h1)
theorem qel(hn:n<8 ^ d):∀(c:Code),qkx c=true->∀{L:TT AV d} {H:Hp} {e:Ex} {L':TT AV d} {H':Hp},(den P d n c).f O L H=.ok e L' H'->(dJ d n).f L'=(dJ d n).f L
 | .skip,_,_,_,_,_,_,h| .label _,_,_,_,_,_,_,h| .exit _,_,_,_,_,_,_,h| .ret,_,_,_,_,_,_,h=>by cases h;rfl
 | .goto _,_,_,_,_,_,_,h| .refuse _,_,_,_,_,_,_,h=>by cases h
 | .rangeFunc f ps sa bd,_,L,H,e,L',H',h=>by
  rw[den]at h;split at h
  ·cases h
  ·rename_i g _ _;have h:endLoop H.nx (qgw O (g L) [.yield H.nx] (aO H (.loop true none d n L ps.toList sa bd))) L=.ok e L' H':=h;unfold endLoop at h;split at h
   ·cases h
   ·split at h<;>first|(cases h;rfl)|cases h
 | .region _ ops false,hc,L,H,e,L',H',h=>by
  have h':mR ((pY P d n ops ops.toList).f O L H)=.ok e L' H':=h;cases h1:(pY P d n ops ops.toList).f O L H with
  |bad=>rw[h1]at h';cases h'
  |ok L1 H1=>rw[h1]at h';cases h';exact qy8 hn _ (by simpa [qkx] using hc) h1
 | .region _ ops true,_,L,H,e,L',H',h=>by
  have h':mR ((qls P d n ops).f O L H)=.ok e L' H':=h;cases h1:(qls P d n ops).f O L H with
  |bad=>rw[h1]at h';cases h'
  |ok L1 H1=>rw[h1]at h';cases h';exact qs7 hn h1
 | .seq a b,hc,L,H,e,L',H',h=>by
  simp only[qkx,pq]at hc;have h':rA ((den P d n a).f O L H) ((den P d n b).f O)=.ok e L' H':=h;cases h1:(den P d n a).f O L H with
  |bad=>rw[h1]at h';cases h'
  |ok e1 L1 H1=>
   rw[h1]at h';have g1:=qel hn a hc.1 h1;cases e1 with
   |normal=>exact(qel hn b hc.2 h').trans g1
   |exit i=>cases h';exact g1
   |goto i=>cases h';exact g1
   |ret=>cases h';exact g1
 | .cond x a b,hc,L,H,e,L',H',h=>by
  simp only[qkx,pq]at hc;have h':condC ((aG d n x).f L) ((den P d n a).f O L H) ((den P d n b).f O L H)=.ok e L' H':=h;unfold condC at h';split at h'
  ·exact qel hn a hc.1 h'
  ·exact qel hn b hc.2 h'
  ·cases h'
 | .block id b,hc,L,H,e,L',H',h=>by
  have h':qtb id ((den P d n b).f O L H)=.ok e L' H':=h;cases h1:(den P d n b).f O L H with
  |bad=>rw[h1]at h';cases h'
  |ok e1 L1 H1=>
   rw[h1]at h';have g1:=qel hn b hc h1;cases e1 with
   |exit i=>
    have h2:(bif Nat.beq i id then Rc.ok .normal L1 H1 else Rc.ok (.exit i) L1 H1)=.ok e L' H':=h';cases hb:Nat.beq i id with
    |true=>rw[hb]at h2;cases h2;exact g1
    |false=>rw[hb]at h2;cases h2;exact g1
   |normal=>cases h';exact g1
   |goto i=>cases h';exact g1
   |ret=>cases h';exact g1
 | .loop b,hc,L,H,e,L',H',h=>by
  have main:∀(k:Nat) {L:TT AV d} {H:Hp},qqd ((den P d n b).f O) k L H=.ok e L' H'->(dJ d n).f L'=(dJ d n).f L:=by
   intro k
   induction k with
   |zero=>intro L H h;cases h
   |succ k ih=>
    intro L H h;have h':rA ((den P d n b).f O L H) (qqd ((den P d n b).f O) k)=.ok e L' H':=h;cases h1:(den P d n b).f O L H with
    |bad=>rw[h1]at h';cases h'
    |ok e1 L1 H1=>
     rw[h1]at h';have g1:=qel hn b hc h1;cases e1 with
     |normal=>exact(ih h').trans g1
     |exit i=>cases h';exact g1
     |goto i=>cases h';exact g1
     |ret=>cases h';exact g1
  exact main bX h
 | .scope b,hc,L,H,e,L',H',h=>qel hn b hc h
def aCB(res:TT AV d->Hp->Option AV):Kt d:=fun e L H=>match e with| .normal=>fJ (res L H) H| .ret=>fJ (res L H) H|_=>.bad
theorem q0{c:Code}{K:Kt d}:Lk P d n O c K (fun L H=>(oF P d n c).f O L H K):=fun L H=>qgt P d n O c L H K
theorem iZ{f:FuncId}{F:Func}(hf:P.funcs[f]? =some F)(hn:(F.name == "runtime.NumGoroutine")=false) (hb:F.body.isSome=true) (hd:qkx (codeOf F)=true) {args:List AV} (ha:(Nat.ble args.length F.ntmps&&Nat.ble (F.ntmps+1) 262144)=true)
  {D:TT AV (iO (F.ntmps+1))->Hp->R1} (h:Lk P (iO (F.ntmps+1)) F.ntmps O (codeOf F) (aCB (qcj P (iO (F.ntmps+1)) F.ntmps F.results.toList).f) D) (H:Hp) :
  (aM P f).f O args H=D (nV args 0 (same .undef _)) H:=by
 refine(zth hf hn hb ha (D:=fun L H=>fin ((den P (iO (F.ntmps+1)) F.ntmps (codeOf F)).f O L H) (aHA F.ntmps O (qcj P (iO (F.ntmps+1)) F.ntmps F.results.toList).f)) (fun _ _=>rfl) H).trans ?_;rw[<-h];cases h1:(den P (iO (F.ntmps+1)) F.ntmps (codeOf F)).f O (nV args 0 (same .undef _)) H with
 |bad=>rfl
 |ok e L' H'=>
  have hs:=qel (lL (ak _) (qb3 _)) (codeOf F) hd h1;simp only[pq,Nat.ble_eq]at ha;have h0:=qkn ha.1 ha.2;have hout:iE F.ntmps O (qcj P (iO (F.ntmps+1)) F.ntmps F.results.toList).f L' H'=fJ ((qcj P (iO (F.ntmps+1)) F.ntmps F.results.toList).f L' H') H':=by unfold iE;rw[hs,h0];rfl
  cases e with
  |normal=>exact hout
  |ret=>exact hout
  |exit i=>rfl
  |goto i=>rfl
end Go.Di
end
noncomputable section
namespace Go.Di
open Go.Ev
def dz(up:Nat)(H:Hp)(k:Nat->Hp->R1):R1:=k H.nx ⟨H.t,H.nx+up⟩
def zQ(p:List Pd)(H:Hp)(k:Hp->R1):R1:=k (nQ p H)
def rV(r:R0):Option AV:=match r with| .val v=>some v|_=>none
def qbv(a:Option AV)(b:Option (List AV)):Option (List AV):=match a,b with|some v,some l=>some (v::l)|_,_=>none
def jK(a:Option (List AV)):Option AV:=match a with|some l=>some (.aX l)|none=>none
def pA(k:Nat):P1:=⟨fun cs off=>some (.agg ((cs.drop off).take k))⟩
def p1:P1:=⟨fun cs off=>cs[off]?⟩
def aY(x:AV):R0:=match x with| .ptr b o=>.val (.ptr b o)| .fn a b c=>.val (.fn a b c)| .yield l=>.val (.yield l)|_=>.bad
def bT(i:Nat)(x:AV):R0:=match x with| .aX l=>(match l[i]? with|some v=>.val v|none=>.bad)|_=>.bad
end Go.Di
end
noncomputable section
namespace Go.Ev
open Go.RowKit Go.Sort
variable {P:Program} {w:World} {ι:Im} {H:Hp}
def qpe:List AV->Option (List Int)
 | []=>some []
 | .int .i64 z::l=>match qpe l with|some r=>some (z::r)|none=>none
 |_::_=>none
def qjc(zs:List Int):List Int:=zs.mergeSort fun x y=>decide (x<=y)
def qyd(H:Hp)(b o n:Nat):Option R1:=
 match eB (H.get b) o n with
 |some l=>match qpe l with
  |some zs=>match storeAt H b o ((qjc zs).map fun z=>.int .i64 z) (.aX [])with
   | .ok v H'=>bif Nat.blt n 4611686018427387904 then some (.ok v H')else none
   | .bad=>none
  |none=>none
 |none=>none
def qoj(f:FuncId)(e:Ext):Ext:=fun g args H=>
 bif Nat.beq g f then(match args with
 | [.sl b o n _ _]=>qyd H b o n
 | [.aA]=>some (.ok (.aX []) H)
 |_=>none)else e g args H
theorem qsz:∀{l:List AV} {zs:List Int},qpe l=some zs->l=zs.map fun z=>.int .i64 z
 | [],zs,h=>by cases h;rfl
 | .int .i64 z::l,zs,h=>by
  unfold qpe at h;split at h
  ·rename_i r hr;cases h;rw[qsz hr];rfl
  ·cases h
 | .int .i8 _::_,_,h| .int .i16 _::_,_,h| .int .i32 _::_,_,h| .int .u8 _::_,_,h| .int .u16 _::_,_,h| .int .u32 _::_,_,h| .int .u64 _::_,_,h=>by cases h
 | .undef::_,_,h| .lit _::_,_,h| .bool _::_,_,h| .str _ _::_,_,h| .ptr _ _::_,_,h| .cK::_,_,h| .sl _ _ _ _ _::_,_,h| .aA::_,_,h| .sle::_,_,h| .map _::_,_,h| .dV::_,_,h| .fn _ _ _::_,_,h| .yield _::_,_,h| .jH::_,_,h| .iface _ _::_,_,h| .oM::_,_,h| .agg _::_,_,h| .aX _::_,_,h=>by cases h
def pI(P:Program)(f:FuncId):Prop:=∀(blk off cap:Nat) (zs:List Int) (w:World),Holds (Value.int .i64) w blk off zs.toArray->blk<w.heap.size->zs.length<4611686018427387904 ->
 Calls P f #[.slice (some ⟨blk,off,none⟩) zs.length cap] w fun e w'=>e=.returned (.tuple #[])/\∃ n os,w'=Go.Sort.grow (putRow (Value.int .i64) (Sort.ahead w n) blk off (qjc zs).toArray) os
theorem qoh(zs:List Int):(qjc zs).length=zs.length:=lAX _
theorem qv3{α:Type}[Inhabited α](enc:α->Value){b dd nn:Nat}{c:TT AV dd}{zz o:Nat}{loc:Loc}(hH:HR ι H w)(hg:H.get b=.cells dd nn c false zz)(hb:ι b=some loc){d0 d:Array α}(hHo:Holds enc w loc.blk (loc.base+o) d0)(hsz:d.size=d0.size){l:List AV}(hl:l.length=d.size)(hle:o+d.size<=nn)(hrep:∀ j,j<d.size->aL ι (l.getD j .undef) (enc d[j]!)/\(enc d[j]!).oneCell=true)(k:Nat)(os:Array Obj):HR ι (H.put b (.cells dd nn (nV l o c) false zz)) (Go.Sort.grow (putRow enc (Sort.ahead w k) loc.blk (loc.base+o) d) os)/\Fr ι ι H (H.put b (.cells dd nn (nV l o c) false zz)) w (Go.Sort.grow (putRow enc (Sort.ahead w k) loc.blk (loc.base+o) d) os):=by
 have hlt:=hH.lt hb;have hB:=hH.blk b hlt;rw[hg]at hB;obtain⟨l',b1,b2,b3,b4⟩:=hB;rw[hb]at b1;cases b1;have hput:HR ι (H.put b (.cells dd nn (nV l o c) false zz)) (putRow enc (Sort.ahead w k) loc.blk (loc.base+o) d)/\Fr ι ι H (H.put b (.cells dd nn (nV l o c) false zz)) w (putRow enc (Sort.ahead w k) loc.blk (loc.base+o) d):=by
  refine hH.put hlt (by rw[hg];rfl) hb _ rfl rfl rfl (by rw[size_putRow];rfl) (fun c' hc'=>?_) ?_
  ·show(w.heap.modify loc.blk _)[c']? =_;rw[lAV,kz (by omega)]
  ·refine⟨loc,hb,b2,fun j hj=>?_,fun _ j hj=>?_⟩
   ·have b2':=b2.1;rw[qh8 _ _ _ _ (by omega) (by omega),hl];obtain⟨V,c1,c2,c3,c4⟩:=b3 j hj;by_cases hin:o<=j/\j<o+d.size
    ·rw[pz hin];obtain⟨e1,e2⟩:=hrep (j-o) (by omega);refine⟨enc d[j-o]!,?_,e1,e2,fun _=>?_⟩
     ·have h1:=cell?_putRow enc (Sort.ahead w k) loc.blk (loc.base+o) d0 d hHo hsz (j-o) (by omega);rwa [show loc.base+o+(j-o)=loc.base+j by omega]at h1
     ·simp_all
    ·rw[kz hin];refine⟨V,?_,c2,c3,fun _=>?_⟩
     ·rw[cell?_putRow_other _ _ _ _ _ _ (.inr (by simp only;omega))];exact c1
     ·simp_all
   ·have h4:=b4 rfl j hj;rw[frozen?_putRow,cell?_putRow_other _ _ _ _ _ _ (.inr (by simp only;omega))];exact h4
 obtain⟨g1,g2⟩:=hput;have hbel:Below (putRow enc (Sort.ahead w k) loc.blk (loc.base+o) d).heap.size (putRow enc (Sort.ahead w k) loc.blk (loc.base+o) d) (Go.Sort.grow (putRow enc (Sort.ahead w k) loc.blk (loc.base+o) d) os):=⟨rfl,rfl,rfl,by rw[Go.Sort.size_grow];omega,fun c hc=>Go.Sort.heap_grow_old _ _ hc⟩;obtain⟨g3,g4⟩:=g1.of_below hbel;exact⟨g3,g2.trans g4⟩
theorem qe7{b:bO}{o n:Nat}{l:List AV}(h:eB b o n=some l):∃ dd nn c ro zz,b=.cells dd nn c ro zz/\o+n<=nn/\l.length=n/\∀ j,j<n->l[j]? =some ((dJ dd (o+j)).f c):=by
 cases b with
 |cells dd nn c ro zz=>
  have h:(bif Nat.ble (o+n) nn then some (tF c n o)else none)=some l:=h;cases hon:Nat.ble (o+n) nn with
  |false=>rw[hon]at h;cases h
  |true=>rw[hon]at h;simp only[qy,qh]at h;subst h;exact⟨dd,nn,c,ro,zz,rfl,oH hon,qg9 c n o,zjs c n o⟩
 |_=>cases h
theorem qfh{b o:Nat}{l:List AV}{v v':AV}{H':Hp}{dd nn zz:Nat}{c:TT AV dd}{ro:Bool}(hg:H.get b=.cells dd nn c ro zz)(h:storeAt H b o l v=.ok v' H'):ro=false/\v'=v/\H'=H.put b (.cells dd nn (nV l o c) false zz)/\o+l.length<=nn:=by
 unfold storeAt wH at h;rw[hg]at h;cases ro with
 |true=>cases h
 |false=>
  dsimp only at h;cases hle:Nat.ble (o+l.length) nn with
  |false=>rw[hle]at h;cases h
  |true=>rw[hle]at h;cases h;exact⟨rfl,rfl,rfl,oH hle⟩
theorem zrs{f:FuncId}(hf:pI P f){b o n m:Nat}{x:Bool}{v:AV}{H':Hp}(h:qyd H b o n=some (.ok v H')){bB:List Value}(hH:HR ι H w)(ha:aI ι [.sl b o n m x] bB):Calls P f bB.toArray w (Post ι H w v H'):=by
 obtain⟨V,r,rfl,⟨hnm,loc,hb,rfl⟩,rfl⟩:=ha;unfold qyd at h;split at h
 ·rename_i l hl;split at h
  ·rename_i zs hz;have hlz:=qsz hz;split at h
   ·rename_i v' H2 hst;cases hn:Nat.blt n 4611686018427387904 with
    |false=>rw[hn]at h;cases h
    |true=>
     rw[hn]at h;cases h;have hn:=oH hn;obtain⟨dd,nn,c,ro,zz,hg,hle,hll,hget⟩:=qe7 hl;obtain⟨rfl,rfl,rfl,_⟩:=qfh hg hst;have hlt:=hH.lt hb;have hB:=hH.blk b hlt;rw[hg]at hB;obtain⟨l',b1,b2,b3,b4⟩:=hB;rw[hb]at b1;cases b1;have hzn:zs.length=n:=by rw[<-hll,hlz,qc]
     subst hzn;have hcell:∀ j,j<zs.length->(dJ dd (o+j)).f c=.int .i64 zs[j]! :=fun j hj=>by simp_all
     have hHo:Holds (Value.int .i64) w loc.blk (loc.base+o) zs.toArray:=fun j hj=>by
      have hj:j<zs.length:=by simpa using hj
      obtain⟨V,c1,c2,c3,c4⟩:=b3 (o+j) (by omega);rw[hcell j hj]at c2;subst c2;rw[<-uk]at c1 c4;refine⟨?_,c4 rfl⟩;rw[c1];simp
     have hbs:loc.blk<w.heap.size:=hH.low b loc hlt (by rw[hg];rfl) hb;refine(hf loc.blk (loc.base+o) (if x then m else m+loc.ext) zs w hHo hbs hn).mono fun e w' hp=>?_;obtain⟨rfl,k,os,rfl⟩:=hp;obtain⟨g1,g2⟩:=qv3 (Value.int .i64) hH hg hb hHo (d:=(qjc zs).toArray) (l:=(qjc zs).map fun z=>.int .i64 z) (by simp[qoh]) (by simp) (by simp[qoh];omega) (fun j hj=>by
      have hj:j<(qjc zs).length:=by simpa using hj
      refine⟨?_,rfl⟩;rw[kw,xw,lh hj];simp[hj,aL]) k os
     exact⟨ι,by simp only[aL,aI];exact⟨[],rfl,rfl⟩,g1,g2⟩
   ·cases h
  ·cases h
 ·cases h
def zng(P:Program)(f:FuncId):Prop:=∀ w,Calls P f #[.slice none 0 0] w fun e w'=>e=.returned (.tuple #[])/\Below w.heap.size w w'
def zlg:R1->Bool
 | .ok (.aX []) _=>true
 | .ok _ _=>false
 | .bad=>false
theorem qp9(hm:P.follows .mixedOrders=true){ext:Ext}(hE:wX P ext){k:Nat}{f:FuncId}(h:zlg (gQ P ext k (.f f) [.aA] Hp.empty)=true):zng P f:=by
 intro w;unfold zlg at h;split at h
 ·rename_i H' he;have:=((qjv hm hE k).fn _ _ _ _ _ he (fun _=>none) w [.slice none 0 0] HR.empty (by simp[aI,aL])).2 0;refine(callsIn_wide.1 this).mono fun e w' hp=>?_;cases e with
  |returned V=>obtain⟨ι',h1,h2,h3⟩:=hp;obtain⟨r,rfl,h1⟩:=h1;exact⟨by simp[h1],h3.below _ (lg _) fun b l _ _ h=>by cases h⟩
  |panicked=>exact hp.elim
  |outgrown=>exact hp.elim
 ·cases h
 ·cases h
theorem qd5{f:FuncId}(hb:qfq P f=true)(A:Array Value):(callFunc f A).run P w=.ok (.enter f A) w:=by
 unfold qfq at hb;split at hb
 ·rename_i fn hfn;simp only[pq,xe]at hb;obtain⟨c,hc'⟩:=lAJ.1 hb.1
  have hname':¬ fn.name = "runtime.NumGoroutine" :=fun e=>by rw[e]at hb;simp at hb
  simp[callFunc,hfn,hname',hc']
 ·cases hb
theorem zaq{e:Ext}(he:wX P e){f:FuncId}(hf:pI P f)(hn:zng P f)(hb:qfq P f=true):wX P (qoj f e):=by
 refine⟨fun g args H r hr v H' hv ι w bB hH ha=>?_⟩;unfold qoj at hr;cases hg:Nat.beq g f with
 |false=>rw[hg]at hr;exact he.fn g _ H r hr v H' hv ι w bB hH ha
 |true=>
  rw[hg]at hr;obtain rfl:=rf hg;refine⟨qd5 hb _,fun m=>callsIn_wide.2 ?_⟩;split at hr
  ·subst hv;exact zrs hf hr hH ha
  ·cases hr;cases hv;obtain⟨V,r,rfl,rfl,rfl⟩:=ha;refine(hn w).mono fun e w' hp=>?_;obtain⟨rfl,hw⟩:=hp;obtain⟨k1,k2⟩:=hH.of_below hw;exact⟨ι,by simp[aL,aI],k1,k2⟩
  ·cases hr
structure Eg where
 (f t:Int)
 s:Bool
 deriving Inhabited
def egV(e:Eg):List AV:=[.int .i64 e.f,.int .i64 e.t,.bool e.s]
def egU(e:Eg):List Value:=[.int .i64 e.f,.int .i64 e.t,.bool e.s]
def qps:List AV->Option (List Eg)
 | []=>some []
 | .int .i64 f:: .int .i64 t:: .bool s::l=>match qps l with|some r=>some (⟨f,t,s⟩::r)|none=>none
 |_=>none
def cI(a b:Int):Int:=if a<b then -1 else if b<a then 1 else 0
def or3(a b c:Int):Int:=if a=0 then if b=0 then c else b else a
def xU(s:Bool):Int:=if s then 1 else 0
def jJ(x y:Eg):Int:=or3 (cI x.f y.f) (cI x.t y.t) (cI (xU x.s) (xU y.s))
def qlg(l:List Eg):List Eg:=l.mergeSort fun x y=> !decide (jJ y x<0)
theorem zar(l:List Eg):(qlg l).length=l.length:=lAX _
theorem zme:∀{l:List AV} {es:List Eg},qps l=some es->l=es.flatMap egV:=by
 intro l
 induction l using qps.induct with
 |case1=>intro es h;unfold qps at h;cases h;rfl
 |case2 f t s l r h1 ih=>intro es h;unfold qps at h;rw[h1]at h;cases h;rw[ih h1];rfl
 |case3 f t s l h1 _=>intro es h;unfold qps at h;simp_all
 |case4 l h1 h2=>
  intro es h;unfold qps at h;split at h
  ·trivial
  ·rename_i f t s l;exact absurd rfl (h2 f t s l)
  ·cases h
theorem zmb(es:List Eg):(es.flatMap egV).length=es.length*3:=by
 induction es with
 |nil=>rfl
 |cons a l ih=>rw[ug,lq,ih,pg];show 3+_=_;omega
theorem zmd:∀(es:List Eg) (t:Nat) (h:t<es.length*3),(es.flatMap egV)[t]? =(egV (es[t / 3]'(by omega)))[t%3]?
 | [],t,h=>by simp at h
 |a::l,t,h=>by
  rw[ug];by_cases ht:t<3
  ·rw[uf (by show t<3;exact ht)];have h0:t / 3=0:=by omega
   have h1:t%3=t:=by omega
   simp only[h0,h1,List.getElem_cons_zero]
  ·rw[uC (by show 3<=t;omega)];show(l.flatMap egV)[t-3]? =_;rw[pg]at h;rw[zmd l (t-3) (by omega)];have h0:t / 3=(t-3) / 3+1:=by omega
   have h1:t%3=(t-3)%3:=by omega
   simp_all
theorem zwp(e:Eg){i:Nat}(hi:i<3){V:Value}:aL ι ((egV e).getD i .undef) V↔V=(egU e)[i]!:=by
 match i,hi with
 |0,_|1,_|2,_=>simp only[egV,egU];exact Iff.rfl
theorem z2l(e:Eg){i:Nat}(hi:i<3):((egU e)[i]!).oneCell=true:=by
 match i,hi with
 |0,_|1,_|2,_=>rfl
def qyh(H:Hp)(b o n:Nat):Option R1:=
 match eB (H.get b) o (n*3)with
 |some l=>match qps l with
  |some es=>match storeAt H b o ((qlg es).flatMap egV) (.aX [])with
   | .ok v H'=>bif Nat.blt n 4611686018427387904 then some (.ok v H')else none
   | .bad=>none
  |none=>none
 |none=>none
def mX(P:Program)(f fc:FuncId):Prop:=∀(d:Array Eg) (blk off cap:Nat) (w:World),Go.Sort.HoldsK egU 3 w blk off d->blk<w.heap.size->d.size<4611686018427387904 ->
 Calls P f #[.slice (some ⟨blk,off,none⟩) d.size cap,.func (.func fc) #[] #[]] w fun e w'=>e=.returned (.tuple #[])/\∃ n os,w'=Go.Proofs.sortWorldK egU 3 w blk off n (qlg d.toList).toArray os
def tV(P:Program)(f:FuncId):Prop:=∀ p cap fv w,Calls P f #[.slice p 0 cap,fv] w fun e w'=>e=.returned (.tuple #[])/\w'=w
def qfi(f fc:FuncId)(e:Ext):Ext:=fun g args H=>
 bif Nat.beq g f then(match args with
 | [.sl b o n _ _,.fn c [] []]=>bif Nat.beq c fc then qyh H b o n else none
 | [.aA,.fn c [] []]=>bif Nat.beq c fc then some (.ok (.aX []) H)else none
 |_=>none)else e g args H
theorem zjc{f fc:FuncId}(hf:mX P f fc){b o n m:Nat}{x:Bool}{v:AV}{H':Hp}(h:qyh H b o n=some (.ok v H')){bB:List Value}(hH:HR ι H w)(ha:aI ι [.sl b o n m x,.fn fc [] []] bB):Calls P f bB.toArray w (Post ι H w v H'):=by
 obtain⟨V,r,rfl,⟨hnm,loc,hb,rfl⟩,V2,r2,rfl,⟨_,_,rfl,rfl,rfl⟩,rfl⟩:=ha;unfold qyh at h;split at h
 ·rename_i l hl;split at h
  ·rename_i es hz;have hlz:=zme hz;split at h
   ·rename_i v' H2 hst;cases hn:Nat.blt n 4611686018427387904 with
    |false=>rw[hn]at h;cases h
    |true=>
     rw[hn]at h;cases h;have hn:=oH hn;obtain⟨dd,nn,c,ro,zz,hg,hle,hll,hget⟩:=qe7 hl;obtain⟨rfl,rfl,rfl,_⟩:=qfh hg hst;have hlt:=hH.lt hb;have hB:=hH.blk b hlt;rw[hg]at hB;obtain⟨l',b1,b2,b3,b4⟩:=hB;rw[hb]at b1;cases b1;have hes:es.length=n:=by rw[hlz,zmb]at hll;omega
     subst hes;have hk:∀(d:List Eg) (t:Nat),t<d.length*3->(Go.Sort.flatK egU 3 d.toArray)[t]! =(egU (d[t / 3]!))[t%3]! :=fun d t ht=>by rw[Go.Sort.get_flatK egU 3 d.toArray t (by simpa using ht)];simp
     have hHo:Go.Sort.HoldsK egU 3 w loc.blk (loc.base+o) es.toArray:=fun j hj=>by
      have hj:j<es.length*3:=by simpa using hj
      obtain⟨V,c1,c2,c3,c4⟩:=b3 (o+j) (by omega);have h1:=hget j hj;have h2:=zmd es j hj;rw[<-hlz,h1]at h2;have hj3:j%3<3:=xF _ (by omega);have h3:(dJ dd (o+j)).f c=(egV (es[j / 3]'(by omega))).getD (j%3) .undef:=by rw[kw,<-h2];rfl
      rw[h3,zwp _ hj3]at c2;subst c2;rw[<-uk]at c1 c4;refine⟨?_,c4 rfl⟩;rw[c1];show some _=some (Go.Sort.flatK egU 3 es.toArray)[j]!;rw[hk es j hj,getElem!_pos es (j / 3) (by omega)]
     have hbs:loc.blk<w.heap.size:=hH.low b loc hlt (by rw[hg];rfl) hb;have hcall:=hf es.toArray loc.blk (loc.base+o) (if x then m else m+loc.ext) w hHo hbs (by rw[List.size_toArray];omega);refine hcall.mono fun e w' hp=>?_;obtain⟨rfl,k,os,rfl⟩:=hp;have hsl:=zar es;obtain⟨g1,g2⟩:=qv3 (α:=Value) id hH hg hb hHo (d:=Go.Sort.flatK egU 3 (qlg es).toArray) (l:=(qlg es).flatMap egV) (by simp[hsl]) (by rw[zmb];simp) (by simp[hsl];omega) (fun j hj=>by
      have hj:j<(qlg es).length*3:=by simpa using hj
      have hj3:j%3<3:=xF _ (by omega);rw[hk _ j hj,getElem!_pos (qlg es) (j / 3) (by omega)];refine⟨?_,z2l _ hj3⟩;rw[kw,zmd _ j hj,<-kw];exact(zwp _ hj3).2 rfl) k os
     exact⟨ι,by simp only[aL,aI];exact⟨[],rfl,rfl⟩,g1,g2⟩
   ·cases h
  ·cases h
 ·cases h
theorem q4q{e:Ext}(he:wX P e){f fc:FuncId}(hf:mX P f fc)(hn:tV P f)(hb:qfq P f=true):wX P (qfi f fc e):=by
 refine⟨fun g args H r hr v H' hv ι w bB hH ha=>?_⟩;unfold qfi at hr;cases hg:Nat.beq g f with
 |false=>rw[hg]at hr;exact he.fn g _ H r hr v H' hv ι w bB hH ha
 |true=>
  rw[hg]at hr;obtain rfl:=rf hg;refine⟨qd5 hb _,fun k=>callsIn_wide.2 ?_⟩;split at hr
  ·rename_i b o n m x c;cases hc:Nat.beq c fc with
   |false=>rw[hc]at hr;cases hr
   |true=>rw[hc]at hr;obtain rfl:=rf hc;subst hv;exact zjc hf hr hH ha
  ·rename_i c;cases hc:Nat.beq c fc with
   |false=>rw[hc]at hr;cases hr
   |true=>rw[hc]at hr;cases hr;cases hv;obtain⟨V,r,rfl,rfl,V2,r2,rfl,⟨_,_,rfl,rfl,rfl⟩,rfl⟩:=ha;exact(hn none 0 _ w).mono fun e w' hp=>by obtain⟨rfl,rfl⟩:=hp;exact⟨ι,by simp[aL,aI],hH,Fr.refl _ _ _⟩
  ·cases hr
def aHz(P:Program)(f:FuncId)(s:Nat×Nat):Prop:=∀(V:Value) (ι:Im) (w:World),aL ι (.str s.1 s.2) V->Calls P f #[V] w fun e w'=>e=.returned (.bool true)/\Below w.heap.size w w'
def qoa(fs:List FuncId)(ns:List (Nat×Nat))(e:Ext):Ext:=fun g args H=>
 bif fs.any (Nat.beq g)then(match args with
 | [.str n a]=>bif ns.any (fun s=>Nat.beq n s.1&&Nat.beq a s.2)then some (.ok (.bool true) H)else none
 |_=>none)else e g args H
theorem zac{e:Ext}(he:wX P e){fs:List FuncId}{ns:List (Nat×Nat)}(h:∀ f∈fs,∀s∈ns,aHz P f s)(hb:fs.all (qfq P)=true):wX P (qoa fs ns e):=by
 refine⟨fun g args H r hr v H' hv ι w bB hH ha=>?_⟩;unfold qoa at hr;cases hg:fs.any (Nat.beq g)with
 |false=>rw[hg]at hr;exact he.fn g _ H r hr v H' hv ι w bB hH ha
 |true=>
  rw[hg]at hr;rw[ag]at hg;obtain⟨g',hgm,hge⟩:=hg;obtain rfl:=rf hge;refine⟨qd5 (yc.1 hb _ hgm) _,fun k=>callsIn_wide.2 ?_⟩;split at hr
  ·rename_i n a;cases hs:ns.any (fun s=>Nat.beq n s.1&&Nat.beq a s.2)with
   |false=>rw[hs]at hr;cases hr
   |true=>rw[hs]at hr;cases hr;cases hv;rw[ag]at hs;obtain⟨s,hsm,hse⟩:=hs;rw[pq]at hse;have e1:=rf hse.1;have e2:=rf hse.2;subst e1 e2;obtain⟨V,r,rfl,hV,rfl⟩:=ha;refine(h g hgm s hsm V ι w hV).mono fun e w' hp=>?_;obtain⟨rfl,hw⟩:=hp;obtain⟨k1,k2⟩:=hH.of_below hw;exact⟨ι,by simp[aL],k1,k2⟩
  ·cases hr
theorem q4b(hm:P.follows .mixedOrders=true){ext:Ext}(hE:wX P ext){k:Nat}{f:FuncId}{s:Nat×Nat}(h:qsy (gQ P ext k (.f f) [.str s.1 s.2] Hp.empty)=true):aHz P f s:=by
 intro V ι w hV;unfold qsy at h;split at h
 ·rename_i b H' he;subst h;have:=((qjv hm hE k).fn _ _ _ _ _ he (fun _=>none) w [V] HR.empty (by simp only[aI];exact⟨V,[],rfl,by simpa only[aL] using hV,rfl⟩)).2 0;refine(callsIn_wide.1 this).mono fun e w' hp=>?_;cases e with
  |returned V=>obtain⟨ι',h1,h2,h3⟩:=hp;exact⟨by rw[h1],h3.below _ (lg _) fun b l _ _ h=>by cases h⟩
  |panicked=>exact hp.elim
  |outgrown=>exact hp.elim
 ·cases h
def headA(H:Hp):AV->Option Int
 | .sl b o n _ _=>bif Nat.blt 0 n then(match dK (H.get b) o with| .val (.int .i64 z)=>some z|_=>none)else none
 |_=>none
def qpi(H:Hp):List AV->Option (List Int)
 | []=>some []
 |v::l=>match headA H v,qpi H l with|some z,some r=>some (z::r)|_,_=>none
def aAa(zs:List Int)(i j:Fin zs.length):Bool:=decide (zs[i]-zs[j]<0)
def cB(zs:List Int)(h:0<zs.length):Array (Fin zs.length):=
 letI:Inhabited (Fin zs.length):=⟨⟨0,h⟩⟩
 pdq (aAa zs) (Array.finRange zs.length) 0 (Array.finRange zs.length).size (Go.Lib.bitLen (Array.finRange zs.length).size) true true
structure aGM(zs:List Int):Prop where
 pos:0<zs.length
 len:zs.length<4611686018427387904
 rng:∀ z∈zs,0<=z/\z<4611686018427387904
open Classical in
def qlf(H:Hp)(b o n:Nat):Option R1:=
 match eB (H.get b) o n with
 |some l=>match qpi (H.put b .dead) l with
  |some zs=>if h:aGM zs then(match storeAt H b o ((cB zs h.pos).toList.map fun i:Fin zs.length=>l.getD i.1 .undef) (.aX [])with
   | .ok v H'=>bif Nat.beq (cB zs h.pos).size zs.length then some (.ok v H')else none
   | .bad=>none)else none
  |none=>none
 |none=>none
def qjd(f fc:FuncId)(e:Ext):Ext:=fun g args H=>
 bif Nat.beq g f then(match args with
 | [.sl b o n _ _,.fn c [] []]=>bif Nat.beq c fc then(bif Nat.beq n 0 then some (.ok (.aX []) H)else qlf H b o n)else none
 | [.aA,.fn c [] []]=>bif Nat.beq c fc then some (.ok (.aX []) H)else none
 |_=>none)else e g args H
def o7(P:Program)(f:FuncId):Prop:=∀ p cap fv w,Calls P f #[.slice p 0 cap,fv] w fun e w'=>e=.returned (.tuple #[])/\w'=w
theorem qoi{f:FuncId}(hf:o7 P f){p:Option Addr}{cap:Nat}{fv:Value}(hH:HR ι H w):Calls P f #[.slice p 0 cap,fv] w (Post ι H w (.aX []) H):=
 (hf p cap fv w).mono fun e w' hp=>by obtain⟨rfl,rfl⟩:=hp;exact⟨ι,by simp[aL,aI],hH,Fr.refl _ _ _⟩
def nT(P:Program)(f fc:FuncId):Prop:=∀(zs:List Int) (h:aGM zs) (enc:Fin zs.length->Value) (blk off cap:Nat) (w:World),
 letI:Inhabited (Fin zs.length):=⟨⟨0,h.pos⟩⟩
 (∀i:Fin zs.length,∃ba oa na ca,enc i=.slice (some ⟨ba,oa,none⟩) na ca/\0<na/\ba≠blk/\ba<w.heap.size/\w.cell? ⟨ba,oa,none⟩=some (.int .i64 zs[i])) ->
 Holds enc w blk off (Array.finRange zs.length)->blk<w.heap.size ->
 Calls P f #[.slice (some ⟨blk,off,none⟩) zs.length cap,.func (.func fc) #[] #[]] w fun e w'=>e=.returned (.tuple #[])/\∃ n os,w'=Go.Sort.grow (putRow enc (Sort.ahead w n) blk off (cB zs h.pos)) os
theorem qs0{H:Hp}:∀{l:List AV} {zs:List Int},qpi H l=some zs->l.length=zs.length/\∀ i (h:i<l.length) (h':i<zs.length),headA H l[i]=some zs[i]
 | [],zs,h=>by cases h;exact⟨rfl,fun i h=>absurd h (ig _)⟩
 |v::l,zs,h=>by
  unfold qpi at h;split at h
  ·rename_i z r h1 h2;cases h;obtain⟨e1,e2⟩:=qs0 h2;refine⟨by simp[e1],fun i h h'=>?_⟩;cases i with
   |zero=>exact h1
   |succ i=>exact e2 i (by simpa using h) (by simpa using h')
  ·cases h
theorem zll{H:Hp}{v:AV}{z:Int}(h:headA H v=some z):∃ b o n m x,v=.sl b o n m x/\0<n/\dK (H.get b) o=.val (.int .i64 z):=by
 unfold headA at h;split at h
 ·rename_i b o n m x;cases hn:Nat.blt 0 n with
  |false=>rw[hn]at h;cases h
  |true=>
   rw[hn]at h;simp only[qy]at h;split at h
   ·rename_i z' hz;cases h;exact⟨_,_,_,_,_,rfl,oH hn,hz⟩
   ·cases h
 ·cases h
theorem zja{f fc:FuncId}(hf:nT P f fc){b o n m:Nat}{x:Bool}{v:AV}{H':Hp}(h:qlf H b o n=some (.ok v H')){bB:List Value}(hH:HR ι H w)(ha:aI ι [.sl b o n m x,.fn fc [] []] bB):Calls P f bB.toArray w (Post ι H w v H'):=by
 simp only[aI,aL]at ha;obtain⟨V,r,rfl,⟨hnm,loc,hb,rfl⟩,V2,r2,rfl,⟨_,_,rfl,rfl,rfl⟩,rfl⟩:=ha;unfold qlf at h;split at h
 ·rename_i l hl;split at h
  ·rename_i zs hz;split at h
   ·rename_i hOk;split at h
    ·rename_i v' H2 hst;cases hsz:Nat.beq (cB zs hOk.pos).size zs.length with
     |false=>rw[hsz]at h;cases h
     |true=>
      rw[hsz]at h;cases h;have hsz:=rf hsz;obtain⟨dd,nn,c,ro,zz,hg,hle,hll,hget⟩:=qe7 hl;obtain⟨rfl,rfl,rfl,_⟩:=qfh hg hst;obtain⟨hlz,hh⟩:=qs0 hz
      letI:Inhabited (Fin zs.length):=⟨⟨0,hOk.pos⟩⟩
      have hlt:=hH.lt hb;have hB:=hH.blk b hlt;rw[hg]at hB;obtain⟨l',b1,b2,b3,b4⟩:=hB;rw[hb]at b1;cases b1;have hn:n=zs.length:=by omega
      subst hn;have hbs:loc.blk<w.heap.size:=hH.low b loc hlt (by rw[hg];rfl) hb;have hV:∀ i:Fin zs.length,∃V,w.cell? ⟨loc.blk,loc.base+o+i,none⟩=some V/\aL ι (l.getD i .undef) V/\V.oneCell=true/\w.frozen? ⟨loc.blk,loc.base+o+i,none⟩=false:=fun i=>by obtain⟨V,c1,c2,c3,c4⟩:=b3 (o+i) (by have:=i.2;omega);rw[<-uk]at c1 c4;refine⟨V,c1,?_,c3,c4 rfl⟩;rw[kw,hget i i.2];exact c2
      let enc:Fin zs.length->Value:=fun i=>Classical.choose (hV i)
      have henc:∀ i:Fin zs.length,w.cell? ⟨loc.blk,loc.base+o+i,none⟩=some (enc i)/\aL ι (l.getD i .undef) (enc i)/\(enc i).oneCell=true/\w.frozen? ⟨loc.blk,loc.base+o+i,none⟩=false:=fun i=>ul (hV i);have hfr:∀ j (h:j<(Array.finRange zs.length).size),((Array.finRange zs.length)[j]! :Fin zs.length)=⟨j,by simpa using h⟩:=fun j h=>by rw[getElem!_pos _ j h];simp
      have hHo:Holds enc w loc.blk (loc.base+o) (Array.finRange zs.length):=fun j hj=>by obtain⟨e1,_,_,e4⟩:=henc ⟨j,by simpa using hj⟩;rw[hfr j hj];exact⟨e1,e4⟩
      have hel:∀ i:Fin zs.length,∃ba oa na ca,enc i=.slice (some ⟨ba,oa,none⟩) na ca/\0<na/\ba≠loc.blk/\ba<w.heap.size/\w.cell? ⟨ba,oa,none⟩=some (.int .i64 zs[i]):=fun i=>by
       have hi:=i.2;obtain⟨bi,oi,ni,mi,xi,e1,e2,e3⟩:=zll (hh i (by omega) i.2);obtain⟨_,r1,_,_⟩:=henc i;rw[kw,lh (by omega)]at r1;have r1:aL ι (l[(i:Nat)]'(by omega)) (enc i):=r1;rw[e1]at r1;simp only[aL]at r1;obtain⟨_,li,k1,k2⟩:=r1;have hbi:bi≠b:=fun e=>by subst e;rw[Hp.get_put _ _ _ _ pF pF,pz rfl]at e3;cases e3
       rw[Hp.get_put _ _ _ _ pF pF,kz hbi]at e3;have hBi:=hH.blk bi pF;cases hgi:H.get bi with
       |cells di ni' ci ri zi=>
        rw[hgi]at e3 hBi;have e3:(bif Nat.blt oi ni' then R0.val ((dJ di oi).f ci)else .bad)=.val (.int .i64 zs[i]):=e3;cases hoi:Nat.blt oi ni' with
        |false=>rw[hoi]at e3;cases e3
        |true=>rw[hoi]at e3;simp only[qy,R0.val.injEq]at e3;have hoi:=oH hoi;obtain⟨li',q1,q2,q3,_⟩:=hBi;rw[k1]at q1;cases q1;obtain⟨Vi,p1,p2,_,_⟩:=q3 oi hoi;rw[e3]at p2;simp only[aL]at p2;subst p2;exact⟨li.blk,li.base+oi,ni,_,k2,e2,fun e=>hbi (hH.inj b bi loc li pF pF (by rw[hg];rfl) (by rw[hgi];rfl) hb k1 e.symm).symm,hH.low bi li pF (by rw[hgi];rfl) k1,p1⟩
       |_=>rw[hgi]at e3;cases e3
      refine(hf zs hOk enc loc.blk (loc.base+o) (if x then m else m+loc.ext) w hel hHo hbs).mono fun e w' hp=>?_;obtain⟨rfl,k,os,rfl⟩:=hp;obtain⟨g1,g2⟩:=qv3 enc hH hg hb hHo (d:=cB zs hOk.pos) (l:=(cB zs hOk.pos).toList.map fun i:Fin zs.length=>l.getD i.1 .undef) (by rw[hsz];simp) (by simp) (by omega) (fun j hj=>by obtain⟨_,e2,e3,_⟩:=henc (cB zs hOk.pos)[j]!;refine⟨?_,e3⟩;rw[getElem!_pos _ j hj]at e2 ⊢;rw[kw (l:=(cB zs hOk.pos).toList.map _),xw,lh (by simpa using hj)];exact e2) k os;exact⟨ι,by simp only[aL,aI];exact⟨[],rfl,rfl⟩,g1,g2⟩
    ·cases h
   ·cases h
  ·cases h
 ·cases h
theorem q4o{e:Ext}(he:wX P e){f fc:FuncId}(hf:nT P f fc)(hn:o7 P f)(hb:qfq P f=true):wX P (qjd f fc e):=by
 refine⟨fun g args H r hr v H' hv ι w bB hH ha=>?_⟩;unfold qjd at hr;cases hg:Nat.beq g f with
 |false=>rw[hg]at hr;exact he.fn g _ H r hr v H' hv ι w bB hH ha
 |true=>
  rw[hg]at hr;obtain rfl:=rf hg;refine⟨qd5 hb _,fun k=>callsIn_wide.2 ?_⟩;simp only[qy]at hr;split at hr
  ·rename_i b o n m x c;cases hc:Nat.beq c fc with
   |false=>rw[hc]at hr;cases hr
   |true=>
    rw[hc]at hr;obtain rfl:=rf hc;subst hv;cases h0:Nat.beq n 0 with
    |false=>rw[h0]at hr;exact zja hf hr hH ha
    |true=>rw[h0]at hr;cases hr;obtain rfl:=rf h0;simp only[aI,aL]at ha;obtain⟨V,r,rfl,⟨hnm,loc,hb,rfl⟩,V2,r2,rfl,⟨_,_,rfl,rfl,rfl⟩,rfl⟩:=ha;exact qoi hn hH
  ·rename_i c;cases hc:Nat.beq c fc with
   |false=>rw[hc]at hr;cases hr
   |true=>rw[hc]at hr;cases hr;cases hv;simp only[aI,aL]at ha;obtain⟨V,r,rfl,rfl,V2,r2,rfl,⟨_,_,rfl,rfl,rfl⟩,rfl⟩:=ha;exact qoi hn hH
  ·cases hr
abbrev Ob:=ByteArray×ByteArray
def aEa(s:ByteArray):AV:=.str s.data.toList.length (jL s.data.toList)
def uV(e:Ob):List AV:=[aEa e.1,aEa e.2]
def obU(e:Ob):List Value:=[.string e.1,.string e.2]
theorem q7n{s t:ByteArray}(h:aEa s=aEa t):s=t:=by injection h with h1 h2;have:=pack_inj h1 h2;cases s;cases t;simp only at this;rw[Array.toList_inj.1 this]
theorem zkj:∀{l m:List Ob},l.flatMap uV=m.flatMap uV->l=m
 | [],[],_=>rfl
 | [],_::_,h=>by cases h
 |_::_,[],h=>by cases h
 |a::l,b::m,h=>by rw[ug,ug]at h;injection h with h1 h;injection h with h2 h;rw[zkj h,show a=b from Prod.ext (q7n h1) (q7n h2)]
open Classical in
def zkm(l:List AV):Option (List Ob):=if h:∃ es:List Ob,l=es.flatMap uV then some h.choose else none
theorem zkl{l:List AV}{es:List Ob}(h:zkm l=some es):l=es.flatMap uV:=by
 unfold zkm at h;split at h
 ·rename_i hx;injection h with h;rw[<-h];exact hx.choose_spec
 ·cases h
theorem zsp(es:List Ob):zkm (es.flatMap uV)=some es:=by have hx:∃ fs:List Ob,es.flatMap uV=fs.flatMap uV:=⟨es,rfl⟩;unfold zkm;rw[dif_pos hx];exact congrArg some (zkj hx.choose_spec).symm
def aCc(s t:ByteArray):Int:=Lib.compareBytes s.data.toList t.data.toList
def or2(x y:Int):Int:=if x=0 then y else x
def qlt(x y:Ob):Int:=or2 (aCc x.1 y.1) (aCc x.2 y.2)
def qe2(l:List Ob):List Ob:=l.mergeSort fun x y=> !decide (qlt y x<0)
theorem qse(l:List Ob):(qe2 l).length=l.length:=lAX _
theorem qjm(es:List Ob):(es.flatMap uV).length=es.length*2:=by
 induction es with
 |nil=>rfl
 |cons a l ih=>rw[ug,lq,ih,pg];show 2+_=_;omega
theorem q47:∀(es:List Ob) (t:Nat) (h:t<es.length*2),(es.flatMap uV)[t]? =(uV (es[t / 2]'(by omega)))[t%2]?
 | [],t,h=>by simp at h
 |a::l,t,h=>by
  rw[ug];by_cases ht:t<2
  ·rw[uf (by show t<2;exact ht)];have h0:t / 2=0:=by omega
   have h1:t%2=t:=by omega
   simp only[h0,h1,List.getElem_cons_zero]
  ·rw[uC (by show 2<=t;omega)];show(l.flatMap uV)[t-2]? =_;rw[pg]at h;rw[q47 l (t-2) (by omega)];have h0:t / 2=(t-2) / 2+1:=by omega
   have h1:t%2=(t-2)%2:=by omega
   simp only[h0,h1,List.getElem_cons_succ]
theorem zwo(e:Ob){i:Nat}(hi:i<2){V:Value}:aL ι ((uV e).getD i .undef) V↔V=(obU e)[i]!:=by
 have key:∀ s:ByteArray,aL ι (.str s.data.toList.length (jL s.data.toList)) V↔V=.string s:=fun s=>by
  simp only[aL];constructor
  ·rintro ⟨s',rfl,h1,h2⟩;have:=pack_inj h1 h2;cases s;cases s';simp only at this;rw[Array.toList_inj.1 this]
  ·rintro rfl;exact⟨s,rfl,rfl,rfl⟩
 match i,hi with
 |0,_=>exact key e.1
 |1,_=>exact key e.2
theorem z1n(e:Ob){i:Nat}(hi:i<2):((obU e)[i]!).oneCell=true:=by
 match i,hi with
 |0,_|1,_=>rfl
def qye(H:Hp)(b o n:Nat):Option R1:=
 match eB (H.get b) o (n*2)with
 |some l=>match zkm l with
  |some es=>match storeAt H b o ((qe2 es).flatMap uV) (.aX [])with
   | .ok v H'=>bif Nat.blt n 4611686018427387904 then some (.ok v H')else none
   | .bad=>none
  |none=>none
 |none=>none
def nE(P:Program)(f fc:FuncId):Prop:=∀(d:Array Ob) (blk off cap:Nat) (w:World),Go.Sort.HoldsK obU 2 w blk off d->blk<w.heap.size->d.size<4611686018427387904 ->
 Calls P f #[.slice (some ⟨blk,off,none⟩) d.size cap,.func (.func fc) #[] #[]] w fun e w'=>e=.returned (.tuple #[])/\∃ n os,w'=Go.Proofs.sortWorldK obU 2 w blk off n (qe2 d.toList).toArray os
def tJ(P:Program)(f:FuncId):Prop:=∀ p cap fv w,Calls P f #[.slice p 0 cap,fv] w fun e w'=>e=.returned (.tuple #[])/\w'=w
def qg4(f fc:FuncId)(e:Ext):Ext:=fun g args H=>
 bif Nat.beq g f then(match args with
 | [.sl b o n _ _,.fn c [] []]=>bif Nat.beq c fc then qye H b o n else none
 | [.aA,.fn c [] []]=>bif Nat.beq c fc then some (.ok (.aX []) H)else none
 |_=>none)else e g args H
theorem zi9{f fc:FuncId}(hf:nE P f fc){b o n m:Nat}{x:Bool}{v:AV}{H':Hp}(h:qye H b o n=some (.ok v H')){bB:List Value}(hH:HR ι H w)(ha:aI ι [.sl b o n m x,.fn fc [] []] bB):Calls P f bB.toArray w (Post ι H w v H'):=by
 simp only[aI,aL]at ha;obtain⟨V,r,rfl,⟨hnm,loc,hb,rfl⟩,V2,r2,rfl,⟨_,_,rfl,rfl,rfl⟩,rfl⟩:=ha;unfold qye at h;split at h
 ·rename_i l hl;split at h
  ·rename_i es hz;have hlz:=zkl hz;split at h
   ·rename_i v' H2 hst;cases hn:Nat.blt n 4611686018427387904 with
    |false=>rw[hn]at h;cases h
    |true=>
     rw[hn]at h;cases h;have hn:=oH hn;obtain⟨dd,nn,c,ro,zz,hg,hle,hll,hget⟩:=qe7 hl;obtain⟨rfl,rfl,rfl,_⟩:=qfh hg hst;have hlt:=hH.lt hb;have hB:=hH.blk b hlt;rw[hg]at hB;obtain⟨l',b1,b2,b3,b4⟩:=hB;rw[hb]at b1;cases b1;have hes:es.length=n:=by rw[hlz,qjm]at hll;omega
     subst hes;have hk:∀(d:List Ob) (t:Nat),t<d.length*2->(Go.Sort.flatK obU 2 d.toArray)[t]! =(obU (d[t / 2]!))[t%2]! :=fun d t ht=>by rw[Go.Sort.get_flatK obU 2 d.toArray t (by simpa using ht)];simp
     have hHo:Go.Sort.HoldsK obU 2 w loc.blk (loc.base+o) es.toArray:=fun j hj=>by
      have hj:j<es.length*2:=by simpa using hj
      obtain⟨V,c1,c2,c3,c4⟩:=b3 (o+j) (by omega);have h1:=hget j hj;have h2:=q47 es j hj;rw[<-hlz,h1]at h2;have hj2:j%2<2:=xF _ (by omega);have h3:(dJ dd (o+j)).f c=(uV (es[j / 2]'(by omega))).getD (j%2) .undef:=by rw[kw,<-h2];rfl
      rw[h3,zwo _ hj2]at c2;subst c2;rw[<-uk]at c1 c4;refine⟨?_,c4 rfl⟩;rw[c1];show some _=some (Go.Sort.flatK obU 2 es.toArray)[j]!;rw[hk es j hj,getElem!_pos es (j / 2) (by omega)]
     have hbs:loc.blk<w.heap.size:=hH.low b loc hlt (by rw[hg];rfl) hb;have hcall:=hf es.toArray loc.blk (loc.base+o) (if x then m else m+loc.ext) w hHo hbs (by rw[List.size_toArray];omega);refine hcall.mono fun e w' hp=>?_;obtain⟨rfl,k,os,rfl⟩:=hp;have hsl:=qse es;obtain⟨g1,g2⟩:=qv3 (α:=Value) id hH hg hb hHo (d:=Go.Sort.flatK obU 2 (qe2 es).toArray) (l:=(qe2 es).flatMap uV) (by simp[hsl]) (by rw[qjm];simp) (by simp[hsl];omega) (fun j hj=>by
      have hj:j<(qe2 es).length*2:=by simpa using hj
      have hj2:j%2<2:=xF _ (by omega);rw[hk _ j hj,getElem!_pos (qe2 es) (j / 2) (by omega)];refine⟨?_,z1n _ hj2⟩;rw[kw,q47 _ j hj,<-kw];exact(zwo _ hj2).2 rfl) k os
     exact⟨ι,by simp only[aL,aI];exact⟨[],rfl,rfl⟩,g1,g2⟩
   ·cases h
  ·cases h
 ·cases h
theorem q4m{e:Ext}(he:wX P e){f fc:FuncId}(hf:nE P f fc)(hn:tJ P f)(hb:qfq P f=true):wX P (qg4 f fc e):=by
 refine⟨fun g args H r hr v H' hv ι w bB hH ha=>?_⟩;unfold qg4 at hr;cases hg:Nat.beq g f with
 |false=>rw[hg]at hr;exact he.fn g _ H r hr v H' hv ι w bB hH ha
 |true=>
  rw[hg]at hr;obtain rfl:=rf hg;refine⟨qd5 hb _,fun k=>callsIn_wide.2 ?_⟩;simp only[qy]at hr;split at hr
  ·rename_i b o n m x c;cases hc:Nat.beq c fc with
   |false=>rw[hc]at hr;cases hr
   |true=>rw[hc]at hr;obtain rfl:=rf hc;subst hv;exact zi9 hf hr hH ha
  ·rename_i c;cases hc:Nat.beq c fc with
   |false=>rw[hc]at hr;cases hr
   |true=>rw[hc]at hr;cases hr;cases hv;simp only[aI,aL]at ha;obtain⟨V,r,rfl,rfl,V2,r2,rfl,⟨_,_,rfl,rfl,rfl⟩,rfl⟩:=ha;exact(hn none 0 _ w).mono fun e w' hp=>by obtain⟨rfl,rfl⟩:=hp;exact⟨ι,by simp[aL,aI],hH,Fr.refl _ _ _⟩
  ·cases hr
theorem qxe:∀(x y:List UInt8),Op.bytesLess x y=decide (x<y)
 | [],[]=>by simp[Op.bytesLess]
 |_::_,[]=>by simp[Op.bytesLess]
 | [],_::_=>by simp[Op.bytesLess]
 |a::x,b::y=>by rw[Op.bytesLess,qxe x y];simp only[List.cons_lt_cons_iff];by_cases h1:a<b<;>by_cases h2:a=b<;>by_cases h3:x<y<;>simp[h1,h2,h3]
def rR(x u y v:List UInt8):Prop:=x<y\/(x=y/\u<v)
theorem rR.irr(x u:List UInt8):¬ rR x u x u:=by
 rintro (h|⟨_,h⟩)
 ·exact List.lt_irrefl _ h
 ·exact List.lt_irrefl _ h
theorem rR.trans{x u y v z w:List UInt8}(h:rR x u y v)(k:rR y v z w):rR x u z w:=by
 rcases h with h|⟨rfl,h⟩
 ·rcases k with k|⟨rfl,k⟩
  ·exact .inl (List.lt_trans h k)
  ·exact .inl h
 ·rcases k with k|⟨rfl,k⟩
  ·exact .inl k
  ·exact .inr ⟨rfl,List.lt_trans h k⟩
theorem rR.tri{x u y v:List UInt8}(h:¬ rR x u y v)(k:¬ rR y v x u):x=y/\u=v:=by unfold rR at h k;rw[not_or]at h k;have e:x=y:=List.le_antisymm k.1 h.1;subst e;exact⟨rfl,List.le_antisymm (fun w=>k.2 ⟨rfl,w⟩) fun w=>h.2 ⟨rfl,w⟩⟩
def tT(x y:Ob):Prop:=rR x.1.data.toList x.2.data.toList y.1.data.toList y.2.data.toList
theorem tT.tri{x y:Ob}(h:¬ tT x y)(k:¬ tT y x):x=y:=by obtain⟨e1,e2⟩:=rR.tri h k;obtain⟨⟨⟨a⟩⟩,⟨⟨b⟩⟩⟩:=x;obtain⟨⟨⟨c⟩⟩,⟨⟨d⟩⟩⟩:=y;simp only at e1 e2;rw[e1,e2]
theorem qw9{x y:Ob}:qlt x y<0↔tT x y:=by
 have key:∀ s t:ByteArray,(aCc s t<0↔s.data.toList<t.data.toList)/\(aCc s t=0↔s.data.toList=t.data.toList):=fun s t=>by
  unfold aCc;rw[qij,qxe];by_cases h:s.data.toList<t.data.toList
  ·rw[gp h];exact⟨⟨fun _=>h,fun _=>by rw[qy];decide⟩,⟨fun h=>by simp at h,fun e=>absurd h (by rw[e];exact List.lt_irrefl _)⟩⟩
  ·rw[qi h];by_cases e:s.data.toList=t.data.toList
   ·rw[gp e];exact⟨⟨fun h=>by simp at h,fun k=>absurd k h⟩,⟨fun _=>e,fun _=>rfl⟩⟩
   ·rw[qi e];exact⟨⟨fun h=>by simp at h,fun k=>absurd k h⟩,⟨fun h=>by simp at h,fun k=>absurd k e⟩⟩
 unfold qlt or2 tT rR;obtain⟨h1,h2⟩:=key x.1 y.1;obtain⟨h3,_⟩:=key x.2 y.2;split
 ·rename_i h;have e:=h2.1 h;rw[h3];constructor
  ·exact fun h=>.inr ⟨e,h⟩
  ·rintro (k|k)
   ·rw[e]at k;exact absurd k (List.lt_irrefl _)
   ·exact k.2
 ·rename_i h;rw[h1];constructor
  ·exact .inl
  ·rintro (k|k)
   ·exact k
   ·exact absurd (h2.2 k.1) h
theorem tT.ntrans{x y z:Ob}(h:¬ tT x y)(k:¬ tT y z):¬ tT x z:=fun w=>by
 by_cases c:tT y x
 ·exact k (rR.trans c w)
 ·have:=tT.tri h c;subst this;exact k w
theorem zao(l:List Ob):(qe2 l).Perm l/\(qe2 l).Pairwise fun x y=>¬ tT y x:=by
 have hle:∀ x y:Ob,(!decide (qlt y x<0))=true↔¬ tT y x:=fun x y=>by rw[xe,xm,qw9]
 refine⟨List.mergeSort_perm _ _,(List.pairwise_mergeSort (fun a b c h1 h2=>?_) (fun a b=>?_) l).imp fun h=>(hle _ _).1 h⟩
 ·rw[hle]at h1 h2 ⊢;exact tT.ntrans h2 h1
 ·rw[af,hle,hle];by_cases c:tT b a
  ·right;exact fun w=>rR.irr _ _ (rR.trans c w)
  ·left;exact c
end Go.Ev
end
noncomputable section
namespace Go.Ev
open Go.RowKit Go.WideShapes Go.ChangeShapes Go.ChangeAt
variable {P:Program} {Hd:Type} {enc:TypeId×Value->Hd}
theorem qj0(hl:laidOutB P=true){W W':World}{sp:Nat->Bool}:∀{ts:List TypeId} {vs:List Value} {ds:List (DataW Hd)} {ps:List MemPlace},(∀t∈ts,P.readableRec t=true/\t<P.types.size) -> DataW.TrodAll enc P W 0 (fun _=>true) true ts vs ds ps->(∀p∈ps,W.sameAt W' p)->(∀p∈ps,sp p.block=true)->DataW.TrodAll enc P W' 0 sp true ts vs ds ps
 | [],[],[],_,_,h,_,_=>h
 |_::_,_::_,_::_,_,hT,⟨p,q,h1,h2,e⟩,hs,hb=>
  ⟨p,q,WideElems.Trod_stays hl (hT _ (qg.2 (Or.inl rfl))).1 (hT _ (qg.2 (Or.inl rfl))).2 h1 (fun x hx=>hs x (by rw[e];exact zu _ hx)) (fun x hx=>hb x (by rw[e];exact zu _ hx)),
   qj0 hl (fun t ht=>hT t (qg.2 (Or.inr ht))) h2 (fun x hx=>hs x (by rw[e];exact ah _ hx)) (fun x hx=>hb x (by rw[e];exact ah _ hx)),e⟩
def z5t(P:Program)(ts:List TypeId):Bool:=ts.all fun t=>P.readableRec t&&decide (t<P.types.size)
theorem zsh(hl:laidOutB P=true){f:Func}{s:ChangeSpec}{apart fresh handsOn again:Bool}{W W':World}{args:Array Value}{ds gs:List (DataW Hd)}{before:List MemPlace}{tb:TypeId}(hW:DataW.Whole enc P f.params.toList s.vars apart W args.toList ds gs before)(hv:s.vars=[])(hr:z5t P f.params.toList=true)(hfn:s.fn Hd ds={results:=[.lit (.bool true)],args:=ds})(hres:f.resultTypes= #[tb])(htb:P.underlying tb=some .bool)(hb:Below W.heap.size W W'):s.post enc P f apart fresh handsOn again W args (.bool true) W':=by
 have hW':=hW;obtain⟨p,q,hA,hV,hq,_,_⟩:=hW;rw[hv]at hV;obtain⟨rfl,rfl⟩:=trodVars_none hV;have hread:∀ t∈f.params.toList,P.readableRec t=true/\t<P.types.size:=fun t ht=>by have:=yc.1 hr t ht;simp_all
 have hds:ds++[]=ds:=uh ds;refine za4 (pa:=p) (pv:=[]) hW' (fun b sp hd=>?_) (fun sp hsp=>?_) (fun sp _=>?_) hq hb ?_
 ·rw[hds,hfn,hres];exact trodAll_cons_mk (shut_bool htb _) trodAll_mk0
 ·rw[hds,hfn];have hlow:=hW'.lt;exact qj0 hl hread hA (fun x hx=>hb.same (hlow x (by rw[hq];simpa using hx))) (fun x hx=>hsp x (by rw[hq];simpa using hx))
 ·rw[hds,hfn,hv];rfl
 ·exact ok_one hres rfl (okWide_bool_mk htb _)
end Go.Ev
end
